/- A step of a walk that loads parts of things that are only read. Of whatever program. -/
import Derived.Test.YtofckcabpchcmaaGreatDoorM31
set_option linter.unusedVariables false
set_option linter.unusedSimpArgs false
set_option linter.unusedSectionVars false
set_option maxRecDepth 100000
namespace Go.Proofs.YtofckcabpchcmaaGreatDoor
section
open Go Go.RowKit
theorem Still.FY{P:Program} [eT P]{N:Nd}{E:Env}{L L':List Chunk}{dst:Option Tmp}{ty:TypeId}{pos:String}{aft:Array Edge}{g:Option (Nat×Bool)}{cs:List Chunk}{b o:Nat}{vs:List Value}{x:Operand}{t:TypeId}{s' b':Nat}{fs:List (Nat×TypeId)}{z' ds:List Value}(hx:ev E x=some (.pointer (some ⟨b,o,none⟩)))(ht:bB P t=some ⟨.struct fs,s',b',z'⟩)(hm:Take (bX cs) L L')(hh:Has cs b o vs)(hv:Cut vs 0 s' ds):Still P N ⟨dst, .load t x,ty,pos,aft,g⟩ E L (.agg ds.toArray):=Still.AA (off:=0) hx ht hm hh hv
theorem Fm{A G:Prop}(k:G)(h:Bx G→A:=by intro hk;(first|(apply aE.op;exact rfl;(first|refine aB.bP (h:=by(apply Still.AA;exact rfl;exact rfl;(focus ((repeat(first|exact Take.head|apply Take.tail));done));(focus assumption);(repeat(first|exact Cut.done|apply Cut.take|apply Cut.skip));done)) (k:=?_)|refine aB.bP (h:=by(apply Still.FY;exact rfl;exact rfl;(focus ((repeat(first|exact Take.head|apply Take.tail));done));(focus assumption);(repeat(first|exact Cut.done|apply Cut.take|apply Cut.skip));done)) (k:=?_)))|(apply aE.op;exact rfl;(first|refine aB.bP (k:=?_)|refine aB.store_ (k:=?_)))|apply aG.kH|apply aG.region|apply aG.block|apply aG.exit|apply aG.ret|apply aG.skip|apply aG.label|apply aE.nil|apply aN.nil|apply aU.nil|apply End.kH|apply End.KY|apply End.K0|apply End.K5|apply End.NU|apply End.NV|apply End.L7|apply End.L8|refine End.KZ (h:=?_)|refine aG.IQ (h1:=?_)|refine aG.IP (h1:=?_)|refine aG.NP (h:=?_)|refine aG.MU (h:=?_)|refine aN.bP (k:=?_)|refine aN.eE (k:=?_)|refine aN.rQ (k:=?_)|refine aN.s7 (k:=?_)|refine aU.bP (k:=?_)|refine aU.eE (k:=?_)|refine aU.rQ (k:=?_)|refine aU.s7 (k:=?_)|(refine aE.eE (h:=?_);(first|refine aB.bP (k:=?_)|refine aB.store_ (k:=?_)))|refine aE.rQ (k:=?_)|refine aE.s7 (k:=?_)|refine aE.rM (k:=?_)|refine aE.rL (k:=?_)|refine aN.rM (k:=?_)|refine aN.rL (k:=?_)|refine aU.rM (k:=?_)|refine aU.rL (k:=?_)|refine Fk ?_|refine JB ?_|refine JA ?_);exact hk.out):A:=h ⟨k⟩
end
end Go.Proofs.YtofckcabpchcmaaGreatDoor
