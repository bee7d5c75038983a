/- verify's heads, walked. -/
import Derived.Test.YtofckcabpchcmaaGreatDoorM12
set_option linter.unusedVariables false
set_option linter.unusedSimpArgs false
set_option linter.unusedSectionVars false
set_option maxRecDepth 100000
namespace Go.Proofs.YtofckcabpchcmaaGreatDoor
namespace Vw
open Go.RowKit Img
attribute [local irreducible] aE aG End aB Still aN aU RunT Fn aS
set_option maxHeartbeats 1000000 in
theorem aCR(cb mb:Nat)(m:ML)(k:Nat)(hk:k<m.us.length)(hl:∀t∈(m.us.getD k default).u.locals,ImgM.In64 t)(hlen:(m.us.getD k default).u.locals.length≤9223372036854775807):Fn Tryz.prog 72 #[ptr cb,up m k] [md m] (ck cb mb m) (σ:=Unit) (fun _=>True) (fun _=> .int .i64 (Ver.head m.aC (m.us.getD k default).u)) (fun _=>ck cb mb m):=by
 refine JE [ptr cb,up m k] Tryz.func72 Tryz.ntmps72 fun w S=>?_;refine Jn ?_
 repeat' (first|(refine Jc ?_;refine aB.bA (spec:=DB _) (k:=?_);intro s hs;refine Jn ?_)|(refine Jc ?_;refine aB.bA (spec:=Q2 _ _ _ _ rfl hlen _ [ptr _] (md m) mH (aF _ [ptr cb] 126::ck cb mb m) (by simp[iL]) (fun t=>!Ver.plain t&& !Ver.handle m.aC t) b7 (fun x hx=>aCP cb mb _ m x (hl x hx))) (k:=?_);intro s hs;refine Jn ?_)|refine Jo ?_|(refine JB ?_;intro b)|(refine JA ?_;intro ao cap)|refine gQ (k:=fun h=>?_) (k':=fun h=>?_)|fail)
 all_goals ((refine End.aX (()) (he:=by(refine int_eq ?_;generalize(m.us.getD k default).u=u at *;generalize m.aC=M at *;unfold Ver.head;(repeat' split);all_goals (first|rfl|omega|(simp_all;done)|(simp_all;omega)))) (hp:=?_));trivial)
end Vw
end Go.Proofs.YtofckcabpchcmaaGreatDoor
