/- The form of programs, walked: statements. -/
import Derived.Test.YtofckcabpchcmaaGreatDoorM30
set_option linter.unusedVariables false
set_option linter.unusedSimpArgs false
set_option linter.unusedSectionVars false
set_option maxRecDepth 100000
namespace Go.Proofs.YtofckcabpchcmaaGreatDoor
namespace Vw
open Go.RowKit Img
attribute [local irreducible] aE aG End aB Still aN aU RunT Fn aS
attribute [local irreducible] Fr.named
set_option maxHeartbeats 8000000 in
theorem OI(pb:Nat)(cs:List Chunk)(x:aM):HY pb cs x:=by
 refine aM.ind (p:=HY pb cs) (fun x ih1 ih2 b o d c hx hc hd=>?_) x;obtain⟨nm,nm1,nm0,hH⟩:=FG x.k x.s;have hρ:Fr.jT d x.st c=(Fr.nd d c).bind fun c=>if Fr.sP x.k x.s=true then(if x.k=6 then some c else(Fr.iG (d+1) x.x.ex c).bind fun c=>(if x.k=3∨x.k=4 then(if 50<x.body.length then none else Fr.eH (d+1) (aM.bV x.body) c)else some c).bind fun c=>if x.k=3 then(if 50<x.fJ.length then none else Fr.eH (d+1) (aM.bV x.fJ) c)else some c)else none:=by
  cases x;simp only[aM.st,Fr.jT,aM.k,aM.s,aM.x,aM.body,aM.fJ,yK,Jf]
 have hX:=hx.has;refine JE [ptr pb, .pointer (some ⟨b,o,none⟩), .int .i64 d] Tryz.func159 Tryz.ntmps159 fun w S=>?_;refine lE ?_;refine bU (OH pb c hc d) fun e he=>?_;obtain⟨e,c1⟩:=e;rcases he with⟨he,hnd,hc1⟩|⟨he,hnd⟩
 rotate_left
 ·have he':decide (e=0)=false:=decide_eq_false he;refine lE ?_;exact End.aX (e,c1) (he:=rfl) (hp:= .inr ⟨he,by rw[hρ,hnd];rfl⟩)
 dsimp only at he hnd hc1;subst he;rw[hnd,eR]at hρ;have hd':d≤40:=by unfold Fr.nd at hnd;split at hnd<;>first|contradiction|omega
 have fail:∀e:Int,e≠0→¬Fr.sP x.k x.s=true→(e=0∧Fr.jT d x.st c=some c1∧c1≤2000)∨(e≠0∧Fr.jT d x.st c=none):=fun e h1 h2=> .inr ⟨h1,by rw[hρ,if_neg h2]⟩
 repeat' (first|(refine Fz ?_)|(refine bU (AJ x.s) fun z hz=>?_)|refine gQ (k:=fun h=>?_) (k':=fun h=>?_)|fail)
 all_goals first
  |refine End.aX (1,c1) (he:=rfl) (hp:=fail 1 aK fun h'=>?_)
  |refine End.aX (7,c1) (he:=rfl) (hp:=fail 7 aK fun h'=>?_)
  |skip
 all_goals
  (try have m1:=nm1 (by assumption))
  (try have m0:=nm0 (by assumption))
  first
  |(have h2:=hH.1 h';clear hρ fail;omega)
  |skip
 all_goals
  have hh:=hH.2 aA;rw[if_pos hh]at hρ;clear hH fail
 all_goals first
  |(refine End.aX (0,c1) (he:=rfl) (hp:= .inl ⟨rfl,by rw[hρ,if_pos (by assumption)],hc1⟩);done)
  |skip
 all_goals
  rw[if_neg aA]at hρ;refine bU (aII pb cs x.x b (o+2) (d+1) c1 hx.ex hc1 aA) fun e he=>?_;obtain⟨e,c2⟩:=e;rcases he with⟨he,hn,hc2⟩|⟨he,hn⟩
  rotate_left
  ·have he':decide (e=0)=false:=decide_eq_false he;refine lE ?_;exact End.aX (e,c2) (he:=rfl) (hp:= .inr ⟨he,by rw[hρ,hn];rfl⟩)
  dsimp only at he hn hc2;subst he;rw[hn,eR]at hρ
  by_cases h34:x.k=3∨x.k=4
  rotate_left
  ·refine lE ?_;exact End.aX (0,c2) (he:=rfl) (hp:= .inl ⟨rfl,by rw[hρ,if_neg h34,eR,if_neg aA],hc2⟩)
  rw[if_pos h34]at hρ
 all_goals first
  |(exfalso;omega)
  |skip
 all_goals
  by_cases h3:x.k=3
  rotate_left
  have h4:x.k=4:=aA
  all_goals
   refine lE ?_;refine bU (DU pb cs x.bo x.bc x.body ih1 (d+1) c2 hx.body hc2 aA) fun e he=>?_;obtain⟨e,c3⟩:=e;rcases he with⟨he,hn,hc3⟩|⟨he,hn⟩
   rotate_left
   ·have he':decide (e=0)=false:=decide_eq_false he;refine lE ?_;exact End.aX (e,c3) (he:=rfl) (hp:= .inr ⟨he,by rw[hρ,hn];rfl⟩)
   dsimp only at he hn hc3;subst he;rw[hn,eR]at hρ;refine lE ?_
  ·exact End.aX (0,c3) (he:=rfl) (hp:= .inl ⟨rfl,by rw[hρ,if_neg h3],hc3⟩)
  rw[if_pos h3]at hρ;refine bU (DU pb cs x.eo x.ec x.fJ ih2 (d+1) c3 hx.fJ hc3 aA) fun e he=>?_;obtain⟨e,c4⟩:=e;refine lE ?_;exact End.aX (e,c4) (he:=rfl) (hp:=by rcases he with⟨h1,h2,h3⟩|⟨h1,h2⟩<;>first|exact .inl ⟨h1,by rw[hρ,h2],h3⟩|exact .inr ⟨h1,by rw[hρ,h2]⟩)
end Vw
end Go.Proofs.YtofckcabpchcmaaGreatDoor
