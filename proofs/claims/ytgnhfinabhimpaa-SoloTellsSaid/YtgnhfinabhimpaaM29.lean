/- yieldref7's small functions, walked: plain, Is, Letter, Head, Instr. -/
import Derived.Test.YtgnhfinabhimpaaM28
set_option linter.unusedVariables false
set_option linter.unusedSimpArgs false
set_option linter.unusedSectionVars false
set_option maxRecDepth 100000
namespace Go.Proofs.Ytgnhfinabhimpaa.Vw
open Go.RowKit Go.Proofs.Ytgnhfinabhimpaa.Img
attribute [local irreducible] Run Cod End OpT Still RunQ RunS RunT Fn PutOk
theorem plain7_is(t:Int):Fn Try.prog 81 #[.int .i64 t] [] [] (σ:=Unit) (fun _=>True) (fun _=> .bool (Ver.plain t)) (fun _=>[]):=by
 refine Fn.enter (args:=[.int .i64 t]) Try.func81 rfl _ Try.ntmps81 rfl (by simp[rd_excl,md_excl]) (fun w S=>?_);(refine Jn ?_)
 repeat' (first|refine Jo ?_|(refine JB ?_;intro b)|(refine JA ?_;intro ao cap)|refine goQ (k:=fun h=>?_) (k':=fun h=>?_)|fail)
 all_goals ((refine End.done1_ (()) (he:=by refine bool_eq ?_;(first|(simp[Ver.plain, *];done)|(simp[Ver.plain];omega)|(rw[Bool.eq_iff_iff];simp[Ver.plain];omega)|(simp[Ver.plain, *];intros;omega))) (hp:=?_));trivial)
theorem is7_is(m:ML)(k kd:Int):Fn Try.prog 94 #[m.val, .int .i64 k, .int .i64 kd] [md m] [] (σ:=Unit) (fun _=>True) (fun _=> .bool (Ver.isUnit m.mdl k kd)) (fun _=>[]):=by
 refine Fn.enter (args:=[m.val, .int .i64 k, .int .i64 kd]) Try.func94 rfl _ Try.ntmps94 rfl (by simp[rd_excl,md_excl]) (fun w S=>?_);(refine Jn ?_)
 repeat' (first|refine Jo ?_|(refine JB ?_;intro b)|(refine JA ?_;intro ao cap)|refine goQ (k:=fun h=>?_) (k':=fun h=>?_)|fail)
 all_goals ((refine End.done1_ (()) (he:=by refine bool_eq ?_;(first|(simp[Ver.isUnit,getD_u, *];done)|(simp[Ver.isUnit,getD_u];omega)|(rw[Bool.eq_iff_iff];simp[Ver.isUnit,getD_u];omega)|(simp[Ver.isUnit,getD_u, *];intros;omega))) (hp:=?_));trivial)
theorem letter_is(t:Int)(ht:t=1∨t=2∨(10≤t∧t<40)):Fn Try.prog 86 #[.int .i64 t] [] [] (σ:=Unit) (fun _=>True) (fun _=>sv [Rf7.lt1 t]) (fun _=>[]):=by
 refine Fn.enter (args:=[.int .i64 t]) Try.func86 rfl _ Try.ntmps86 rfl (by simp[rd_excl,md_excl]) (fun w S=>?_);(refine Jn ?_)
 by_cases h1:t=1
 ·subst h1
  repeat(refine Jy ?_;try first|intro ao cap|intro b)
  (refine End.done1_ (()) (he:=by exact rfl) (hp:=?_));trivial
 by_cases h2:t=2
 ·subst h2
  repeat(refine Jy ?_;try first|intro ao cap|intro b)
  (refine End.done1_ (()) (he:=by exact rfl) (hp:=?_));trivial
 have h3:10≤t∧t<40:=by omega
 have hv:65+t-10=((Rf7.lt1 t).toNat:Int):=by
  have:=Rf7.lt1_nat h3;omega
 repeat(refine Jy ?_;try first|intro ao cap|intro b)
 rw[hv];apply Run.imp (fun w hm=>hm.toArr (iα:=inferInstance) (ef:=inferInstance) (b:=b) (e:=5) (f:=byC) (n:=1) (tk) [Rf7.lt1 t] rfl rfl (by unfold maxLen;simp));(apply Run.op;exact rfl;refine OpT.val_ (h:=by exact Still.sOf (a:=[Rf7.lt1 t]) rfl (Rdb.arr (tk)) rfl rfl rfl (by omega)) (k:=?_))
 repeat(refine Jy ?_;try first|intro ao cap|intro b)
 (refine End.done1_ (()) (he:=Jv) (hp:=?_));trivial
end Go.Proofs.Ytgnhfinabhimpaa.Vw
