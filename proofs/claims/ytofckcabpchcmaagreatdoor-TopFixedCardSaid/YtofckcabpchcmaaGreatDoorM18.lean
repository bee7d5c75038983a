/- A step of a walk that loads parts of things that are only read. Of whatever program. -/
import Derived.Test.YtofckcabpchcmaaGreatDoorM17
set_option linter.unusedVariables false
set_option linter.unusedSimpArgs false
set_option linter.unusedSectionVars false
set_option maxRecDepth 100000
namespace Go.Proofs.YtofckcabpchcmaaGreatDoor
section
open Go Go.RowKit
theorem Still.EM{P:Program} [eP P]{N:Nd}{E:Env}{L L':List Chunk}{dst:Option Tmp}{ty:TypeId}{pos:String}{aft:Array Edge}{g:Option (Nat×Bool)}{cs:List Chunk}{b o:Nat}{vs:List Value}{x:Operand}{t:TypeId}{s' b':Nat}{fs:List (Nat×TypeId)}{z' ds:List Value}(hx:ev E x=some (.pointer (some ⟨b,o,none⟩)))(ht:aW P t=some ⟨.struct fs,s',b',z'⟩)(hm:Take (bE cs) L L')(hh:Has cs b o vs)(hv:Cut vs 0 s' ds):Still P N ⟨dst, .load t x,ty,pos,aft,g⟩ E L (.agg ds.toArray):=Still.yR (off:=0) hx ht hm hh hv
theorem Fm{A G:Prop}(k:G)(h:Bx G→A:=by intro hk;(first|(apply aE.op;exact rfl;(first|refine aA.b8 (h:=by(apply Still.yR;exact rfl;exact rfl;(focus ((repeat(first|exact Take.head|apply Take.tail));done));(focus assumption);(repeat(first|exact Cut.done|apply Cut.take|apply Cut.skip));done)) (k:=?_)|refine aA.b8 (h:=by(apply Still.EM;exact rfl;exact rfl;(focus ((repeat(first|exact Take.head|apply Take.tail));done));(focus assumption);(repeat(first|exact Cut.done|apply Cut.take|apply Cut.skip));done)) (k:=?_)))|(apply aE.op;exact rfl;(first|refine aA.b8 (k:=?_)|refine aA.store_ (k:=?_)))|apply aB.jQ|apply aB.region|apply aB.block|apply aB.exit|apply aB.ret|apply aB.skip|apply aB.label|apply aE.nil|apply aM.nil|apply aP.nil|apply End.jQ|apply End.I9|apply End.KC|apply End.KD|apply End.M6|apply End.M7|apply End.LK|apply End.LL|refine End.KA (h:=?_)|refine aB.H3 (h1:=?_)|refine aB.H2 (h1:=?_)|refine aB.M5 (h:=?_)|refine aB.MA (h:=?_)|refine aM.b8 (k:=?_)|refine aM.gL (k:=?_)|refine aM.qU (k:=?_)|refine aM.sB (k:=?_)|refine aP.b8 (k:=?_)|refine aP.gL (k:=?_)|refine aP.qU (k:=?_)|refine aP.sB (k:=?_)|(refine aE.gL (h:=?_);(first|refine aA.b8 (k:=?_)|refine aA.store_ (k:=?_)))|refine aE.qU (k:=?_)|refine aE.sB (k:=?_)|refine aE.qQ (k:=?_)|refine aE.qP (k:=?_)|refine aM.qQ (k:=?_)|refine aM.qP (k:=?_)|refine aP.qQ (k:=?_)|refine aP.qP (k:=?_)|refine Fk ?_|refine JB ?_|refine JA ?_);exact hk.out):A:=h ⟨k⟩
end
end Go.Proofs.YtofckcabpchcmaaGreatDoor
