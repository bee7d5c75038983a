/- yieldref7.Instr, walked. -/
import Derived.Test.YtjehflelkpacfaaGreatM32
set_option linter.unusedVariables false
set_option linter.unusedSimpArgs false
set_option linter.unusedSectionVars false
set_option maxRecDepth 100000
namespace Go.Proofs.YtjehflelkpacfaaGreat.Vw
open Go.RowKit Go.Proofs.YtjehflelkpacfaaGreat.Img
attribute [local irreducible] Run Cod End OpT Still RunQ RunS RunT Fn PutOk
set_option maxHeartbeats 2000000 in
theorem instr7_a(m:ML)(k:Nat)(hk:k<m.us.length)(op a n:Int)(hL:(m.us.getD k default).u.locals.length≤9223372036854775807)(hC:(m.us.getD k default).u.code.length≤9223372036854775807)(hBx:m.bx.length≤9223372036854775807)(hmine:(op<1)∨(32<op)∨(op=2)):Fn Tryz.prog 84 #[m.val, .agg (ucell (m.us.getD k default)).toArray, .agg #[.int .i64 op, .int .i64 a, .int .i64 n]] [md m] [] (σ:=Unit) (fun _=>True) (fun _=> .int .i64 (Ver.instr m.mdl (m.us.getD k default).u ⟨op,a,n⟩)) (fun _=>[]):=by
 refine JE [m.val, .agg (ucell (m.us.getD k default)).toArray, .agg #[.int .i64 op, .int .i64 a, .int .i64 n]] Tryz.func84 Tryz.ntmps84 fun w S=>?_
 (refine Jn ?_);obtain⟨R,hR⟩:∃R,R=Ver.instr m.mdl (m.us.getD k default).u ⟨op,a,n⟩:=⟨_,rfl⟩;rw[←hR];have hbm:m.mdl.boxes.length=m.bx.length:=rfl;have rt:∀b:Bool,b=true→Ver.rng b=0:=fun b h=>by rw[h];rfl
 have rf:∀b:Bool,b=false→Ver.rng b=3:=fun b h=>by rw[h];rfl
 by_cases c1:op<1
 ·have e:R=1:=by rw[hR];unfold Ver.instr;dsimp only;rw[if_neg (by omega),if_neg (by omega),if_neg (by omega),if_neg (by omega),if_neg (by omega),if_neg (by omega),if_pos (by omega)]
  repeat(refine Jy ?_;try first|intro ao cap|intro b)
  (refine End.done1_ (()) (he:=by exact int_eq e.symm) (hp:=?_));trivial
 by_cases c2:32<op
 ·have e:R=1:=by rw[hR];unfold Ver.instr;dsimp only;rw[if_neg (by omega),if_neg (by omega),if_neg (by omega),if_neg (by omega),if_neg (by omega),if_neg (by omega),if_pos (by omega)]
  repeat(refine Jy ?_;try first|intro ao cap|intro b)
  (refine End.done1_ (()) (he:=by exact int_eq e.symm) (hp:=?_));trivial
 by_cases o2:op=2
 ·by_cases g:a<0∨2≤a
  ·have e:R=3:=by
    rw[hR];unfold Ver.instr;dsimp only;rw[if_pos o2];exact rf _ (by rw[decide_eq_false (by omega),decide_eq_false (by omega)];rfl)
   rcases g with g|g
   all_goals (repeat(refine Jy ?_;try first|intro ao cap|intro b))
   all_goals ((refine End.done1_ (()) (he:=by exact int_eq e.symm) (hp:=?_));trivial)
  ·have e:R=0:=by
    rw[hR];unfold Ver.instr;dsimp only;rw[if_pos o2];refine rt _ ?_;rcases(show a=0∨a=1 by omega)with h|h
    ·rw[decide_eq_true h];rfl
    ·rw[decide_eq_true h,Bool.or_true]
   have g1:¬a<0:=by omega
   have g2:¬2≤a:=by omega
   repeat(refine Jy ?_;try first|intro ao cap|intro b)
   (refine End.done1_ (()) (he:=by exact int_eq e.symm) (hp:=?_));trivial
 exact absurd hmine (not_or.2 ⟨c1,not_or.2 ⟨c2,o2⟩⟩)
set_option maxHeartbeats 2000000 in
theorem instr7_b(m:ML)(k:Nat)(hk:k<m.us.length)(op a n:Int)(hL:(m.us.getD k default).u.locals.length≤9223372036854775807)(hC:(m.us.getD k default).u.code.length≤9223372036854775807)(hBx:m.bx.length≤9223372036854775807)(c1:¬(op<1))(c2:¬(32<op))(o2:¬(op=2))(hmine:(op=3∨op=4)):Fn Tryz.prog 84 #[m.val, .agg (ucell (m.us.getD k default)).toArray, .agg #[.int .i64 op, .int .i64 a, .int .i64 n]] [md m] [] (σ:=Unit) (fun _=>True) (fun _=> .int .i64 (Ver.instr m.mdl (m.us.getD k default).u ⟨op,a,n⟩)) (fun _=>[]):=by
 refine JE [m.val, .agg (ucell (m.us.getD k default)).toArray, .agg #[.int .i64 op, .int .i64 a, .int .i64 n]] Tryz.func84 Tryz.ntmps84 fun w S=>?_
 (refine Jn ?_);obtain⟨R,hR⟩:∃R,R=Ver.instr m.mdl (m.us.getD k default).u ⟨op,a,n⟩:=⟨_,rfl⟩;rw[←hR];have hbm:m.mdl.boxes.length=m.bx.length:=rfl;have rt:∀b:Bool,b=true→Ver.rng b=0:=fun b h=>by rw[h];rfl
 have rf:∀b:Bool,b=false→Ver.rng b=3:=fun b h=>by rw[h];rfl
 by_cases o3:op=3∨op=4
 ·by_cases g:a<0∨((m.us.getD k default).u.locals.length:Int)≤a
  ·have e:R=3:=by
    rw[hR];unfold Ver.instr;dsimp only;rw[if_neg o2,if_pos o3];refine rf _ ?_;rcases g with g|g
    ·rw[decide_eq_false (show¬0≤a by omega)];rfl
    ·rw[decide_eq_false (show¬a<((m.us.getD k default).u.locals.length:Int) by omega),Bool.and_false]
   rcases o3 with o3|o3<;>rcases g with g|g
   all_goals (repeat(refine Jy ?_;try first|intro ao cap|intro b))
   all_goals ((refine End.done1_ (()) (he:=by exact int_eq e.symm) (hp:=?_));trivial)
  ·have e:R=0:=by
    rw[hR];unfold Ver.instr;dsimp only;rw[if_neg o2,if_pos o3];exact rt _ (by rw[decide_eq_true (show 0≤a by omega),decide_eq_true (show a<((m.us.getD k default).u.locals.length:Int) by omega)];rfl)
   have g1:¬a<0:=by omega
   have g2:¬((m.us.getD k default).u.locals.length:Int)≤a:=by omega
   rcases o3 with o3|o3
   all_goals (repeat(refine Jy ?_;try first|intro ao cap|intro b))
   all_goals ((refine End.done1_ (()) (he:=by exact int_eq e.symm) (hp:=?_));trivial)
 exact absurd hmine o3
set_option maxHeartbeats 2000000 in
theorem instr7_c(m:ML)(k:Nat)(hk:k<m.us.length)(op a n:Int)(hL:(m.us.getD k default).u.locals.length≤9223372036854775807)(hC:(m.us.getD k default).u.code.length≤9223372036854775807)(hBx:m.bx.length≤9223372036854775807)(c1:¬(op<1))(c2:¬(32<op))(o2:¬(op=2))(o3:¬(op=3∨op=4))(hmine:(op=21∨op=22)):Fn Tryz.prog 84 #[m.val, .agg (ucell (m.us.getD k default)).toArray, .agg #[.int .i64 op, .int .i64 a, .int .i64 n]] [md m] [] (σ:=Unit) (fun _=>True) (fun _=> .int .i64 (Ver.instr m.mdl (m.us.getD k default).u ⟨op,a,n⟩)) (fun _=>[]):=by
 refine JE [m.val, .agg (ucell (m.us.getD k default)).toArray, .agg #[.int .i64 op, .int .i64 a, .int .i64 n]] Tryz.func84 Tryz.ntmps84 fun w S=>?_
 (refine Jn ?_);obtain⟨R,hR⟩:∃R,R=Ver.instr m.mdl (m.us.getD k default).u ⟨op,a,n⟩:=⟨_,rfl⟩;rw[←hR];have hbm:m.mdl.boxes.length=m.bx.length:=rfl;have rt:∀b:Bool,b=true→Ver.rng b=0:=fun b h=>by rw[h];rfl
 have rf:∀b:Bool,b=false→Ver.rng b=3:=fun b h=>by rw[h];rfl
 by_cases o21:op=21∨op=22
 ·by_cases g:a<0∨((m.us.getD k default).u.code.length:Int)≤a
  ·have e:R=3:=by
    rw[hR];unfold Ver.instr;dsimp only;rw[if_neg o2,if_neg o3,if_pos o21];refine rf _ ?_;rcases g with g|g
    ·rw[decide_eq_false (show¬0≤a by omega)];rfl
    ·rw[decide_eq_false (show¬a<((m.us.getD k default).u.code.length:Int) by omega),Bool.and_false]
   rcases o21 with o21|o21<;>rcases g with g|g
   all_goals (repeat(refine Jy ?_;try first|intro ao cap|intro b))
   all_goals ((refine End.done1_ (()) (he:=by exact int_eq e.symm) (hp:=?_));trivial)
  ·have e:R=0:=by
    rw[hR];unfold Ver.instr;dsimp only;rw[if_neg o2,if_neg o3,if_pos o21];exact rt _ (by rw[decide_eq_true (show 0≤a by omega),decide_eq_true (show a<((m.us.getD k default).u.code.length:Int) by omega)];rfl)
   have g1:¬a<0:=by omega
   have g2:¬((m.us.getD k default).u.code.length:Int)≤a:=by omega
   rcases o21 with o21|o21
   all_goals (repeat(refine Jy ?_;try first|intro ao cap|intro b))
   all_goals ((refine End.done1_ (()) (he:=by exact int_eq e.symm) (hp:=?_));trivial)
 exact absurd hmine o21
set_option maxHeartbeats 2000000 in
theorem instr7_d(m:ML)(k:Nat)(hk:k<m.us.length)(op a n:Int)(hL:(m.us.getD k default).u.locals.length≤9223372036854775807)(hC:(m.us.getD k default).u.code.length≤9223372036854775807)(hBx:m.bx.length≤9223372036854775807)(c1:¬(op<1))(c2:¬(32<op))(o2:¬(op=2))(o3:¬(op=3∨op=4))(o21:¬(op=21∨op=22))(hmine:(op=23)∨(op=29)):Fn Tryz.prog 84 #[m.val, .agg (ucell (m.us.getD k default)).toArray, .agg #[.int .i64 op, .int .i64 a, .int .i64 n]] [md m] [] (σ:=Unit) (fun _=>True) (fun _=> .int .i64 (Ver.instr m.mdl (m.us.getD k default).u ⟨op,a,n⟩)) (fun _=>[]):=by
 refine JE [m.val, .agg (ucell (m.us.getD k default)).toArray, .agg #[.int .i64 op, .int .i64 a, .int .i64 n]] Tryz.func84 Tryz.ntmps84 fun w S=>?_
 (refine Jn ?_);obtain⟨R,hR⟩:∃R,R=Ver.instr m.mdl (m.us.getD k default).u ⟨op,a,n⟩:=⟨_,rfl⟩;rw[←hR];have hbm:m.mdl.boxes.length=m.bx.length:=rfl;have rt:∀b:Bool,b=true→Ver.rng b=0:=fun b h=>by rw[h];rfl
 have rf:∀b:Bool,b=false→Ver.rng b=3:=fun b h=>by rw[h];rfl
 by_cases o23:op=23
 ·subst o23;have e:R=Ver.rng (Ver.isUnit m.mdl a 2):=by rw[hR];rfl
  repeat(refine Jy ?_;try first|intro ao cap|intro b)
  refine Jc ?_;refine OpT.call0_ (spec:=is7_is m _ 2) (k:=?_);intro s hs;(refine Jn ?_)
  by_cases g:Ver.isUnit m.mdl a 2=true
  ·have g2:(!(Ver.isUnit m.mdl a 2))=false:=by rw[g];rfl
   rw[rt _ g]at e
   repeat(refine Jy ?_;try first|intro ao cap|intro b)
   (refine End.done1_ (()) (he:=by exact int_eq e.symm) (hp:=?_));trivial
  ·have g:Ver.isUnit m.mdl a 2=false:=by simpa using g
   have g2:(!(Ver.isUnit m.mdl a 2))=true:=by rw[g];rfl
   rw[rf _ g]at e
   repeat(refine Jy ?_;try first|intro ao cap|intro b)
   (refine End.done1_ (()) (he:=by exact int_eq e.symm) (hp:=?_));trivial
 by_cases o29:op=29
 ·subst o29;have e:R=Ver.rng (Ver.isUnit m.mdl a 3):=by rw[hR];rfl
  repeat(refine Jy ?_;try first|intro ao cap|intro b)
  refine Jc ?_;refine OpT.call0_ (spec:=is7_is m _ 3) (k:=?_);intro s hs;(refine Jn ?_)
  by_cases g:Ver.isUnit m.mdl a 3=true
  ·have g2:(!(Ver.isUnit m.mdl a 3))=false:=by rw[g];rfl
   rw[rt _ g]at e
   repeat(refine Jy ?_;try first|intro ao cap|intro b)
   (refine End.done1_ (()) (he:=by exact int_eq e.symm) (hp:=?_));trivial
  ·have g:Ver.isUnit m.mdl a 3=false:=by simpa using g
   have g2:(!(Ver.isUnit m.mdl a 3))=true:=by rw[g];rfl
   rw[rf _ g]at e
   repeat(refine Jy ?_;try first|intro ao cap|intro b)
   (refine End.done1_ (()) (he:=by exact int_eq e.symm) (hp:=?_));trivial
 exact absurd hmine (not_or.2 ⟨o23,o29⟩)
set_option maxHeartbeats 2000000 in
theorem instr7_e(m:ML)(k:Nat)(hk:k<m.us.length)(op a n:Int)(hL:(m.us.getD k default).u.locals.length≤9223372036854775807)(hC:(m.us.getD k default).u.code.length≤9223372036854775807)(hBx:m.bx.length≤9223372036854775807)(c1:¬(op<1))(c2:¬(32<op))(o2:¬(op=2))(o3:¬(op=3∨op=4))(o21:¬(op=21∨op=22))(o23:¬(op=23))(o29:¬(op=29))(hmine:(op=26∨op=27)):Fn Tryz.prog 84 #[m.val, .agg (ucell (m.us.getD k default)).toArray, .agg #[.int .i64 op, .int .i64 a, .int .i64 n]] [md m] [] (σ:=Unit) (fun _=>True) (fun _=> .int .i64 (Ver.instr m.mdl (m.us.getD k default).u ⟨op,a,n⟩)) (fun _=>[]):=by
 refine JE [m.val, .agg (ucell (m.us.getD k default)).toArray, .agg #[.int .i64 op, .int .i64 a, .int .i64 n]] Tryz.func84 Tryz.ntmps84 fun w S=>?_
 (refine Jn ?_);obtain⟨R,hR⟩:∃R,R=Ver.instr m.mdl (m.us.getD k default).u ⟨op,a,n⟩:=⟨_,rfl⟩;rw[←hR];have hbm:m.mdl.boxes.length=m.bx.length:=rfl;have rt:∀b:Bool,b=true→Ver.rng b=0:=fun b h=>by rw[h];rfl
 have rf:∀b:Bool,b=false→Ver.rng b=3:=fun b h=>by rw[h];rfl
 by_cases o26:op=26∨op=27
 ·by_cases g:a<0∨(m.bx.length:Int)≤a
  ·have e:R=3:=by
    rw[hR];unfold Ver.instr;dsimp only;rw[if_neg o2,if_neg o3,if_neg o21,if_neg o23,if_neg o29,if_pos o26];refine rf _ ?_;rw[hbm];rcases g with g|g
    ·rw[decide_eq_false (show¬0≤a by omega)];rfl
    ·rw[decide_eq_false (show¬a<(m.bx.length:Int) by omega),Bool.and_false]
   rcases o26 with o26|o26<;>rcases g with g|g
   all_goals (repeat(refine Jy ?_;try first|intro ao cap|intro b))
   all_goals ((refine End.done1_ (()) (he:=by exact int_eq e.symm) (hp:=?_));trivial)
  ·have e:R=0:=by
    rw[hR];unfold Ver.instr;dsimp only;rw[if_neg o2,if_neg o3,if_neg o21,if_neg o23,if_neg o29,if_pos o26,hbm];exact rt _ (by rw[decide_eq_true (show 0≤a by omega),decide_eq_true (show a<(m.bx.length:Int) by omega)];rfl)
   have g1:¬a<0:=by omega
   have g2:¬(m.bx.length:Int)≤a:=by omega
   rcases o26 with o26|o26
   all_goals (repeat(refine Jy ?_;try first|intro ao cap|intro b))
   all_goals ((refine End.done1_ (()) (he:=by exact int_eq e.symm) (hp:=?_));trivial)
 exact absurd hmine o26
set_option maxHeartbeats 2000000 in
theorem instr7_f(m:ML)(k:Nat)(hk:k<m.us.length)(op a n:Int)(hL:(m.us.getD k default).u.locals.length≤9223372036854775807)(hC:(m.us.getD k default).u.code.length≤9223372036854775807)(hBx:m.bx.length≤9223372036854775807)(c1:¬(op<1))(c2:¬(32<op))(o2:¬(op=2))(o3:¬(op=3∨op=4))(o21:¬(op=21∨op=22))(o23:¬(op=23))(o29:¬(op=29))(o26:¬(op=26∨op=27)):Fn Tryz.prog 84 #[m.val, .agg (ucell (m.us.getD k default)).toArray, .agg #[.int .i64 op, .int .i64 a, .int .i64 n]] [md m] [] (σ:=Unit) (fun _=>True) (fun _=> .int .i64 (Ver.instr m.mdl (m.us.getD k default).u ⟨op,a,n⟩)) (fun _=>[]):=by
 refine JE [m.val, .agg (ucell (m.us.getD k default)).toArray, .agg #[.int .i64 op, .int .i64 a, .int .i64 n]] Tryz.func84 Tryz.ntmps84 fun w S=>?_
 (refine Jn ?_);obtain⟨R,hR⟩:∃R,R=Ver.instr m.mdl (m.us.getD k default).u ⟨op,a,n⟩:=⟨_,rfl⟩;rw[←hR];have hbm:m.mdl.boxes.length=m.bx.length:=rfl;have rt:∀b:Bool,b=true→Ver.rng b=0:=fun b h=>by rw[h];rfl
 have rf:∀b:Bool,b=false→Ver.rng b=3:=fun b h=>by rw[h];rfl
 have e:R=0:=by
  rw[hR];unfold Ver.instr;dsimp only;rw[if_neg o2,if_neg o3,if_neg o21,if_neg o23,if_neg o29,if_neg o26,if_neg (by omega)]
 repeat(refine Jy ?_;try first|intro ao cap|intro b)
 (refine End.done1_ (()) (he:=by exact int_eq e.symm) (hp:=?_));trivial
theorem instr7_is(m:ML)(k:Nat)(hk:k<m.us.length)(op a n:Int)(hL:(m.us.getD k default).u.locals.length≤9223372036854775807)(hC:(m.us.getD k default).u.code.length≤9223372036854775807)(hBx:m.bx.length≤9223372036854775807):Fn Tryz.prog 84 #[m.val, .agg (ucell (m.us.getD k default)).toArray, .agg #[.int .i64 op, .int .i64 a, .int .i64 n]] [md m] [] (σ:=Unit) (fun _=>True) (fun _=> .int .i64 (Ver.instr m.mdl (m.us.getD k default).u ⟨op,a,n⟩)) (fun _=>[]):=by
 by_cases c1:op<1
 ·exact instr7_a m k hk op a n hL hC hBx (.inl c1)
 by_cases c2:32<op
 ·exact instr7_a m k hk op a n hL hC hBx (.inr (.inl c2))
 by_cases o2:op=2
 ·exact instr7_a m k hk op a n hL hC hBx (.inr (.inr o2))
 by_cases o3:op=3∨op=4
 ·exact instr7_b m k hk op a n hL hC hBx c1 c2 o2 o3
 by_cases o21:op=21∨op=22
 ·exact instr7_c m k hk op a n hL hC hBx c1 c2 o2 o3 o21
 by_cases o23:op=23
 ·exact instr7_d m k hk op a n hL hC hBx c1 c2 o2 o3 o21 (.inl o23)
 by_cases o29:op=29
 ·exact instr7_d m k hk op a n hL hC hBx c1 c2 o2 o3 o21 (.inr o29)
 by_cases o26:op=26∨op=27
 ·exact instr7_e m k hk op a n hL hC hBx c1 c2 o2 o3 o21 o23 o29 o26
 exact instr7_f m k hk op a n hL hC hBx c1 c2 o2 o3 o21 o23 o29 o26
end Go.Proofs.YtjehflelkpacfaaGreat.Vw
