/- The form of programs, walked: expressions. -/
import Derived.Test.YtofckcabpchcmaaGreatDoorM29
set_option linter.unusedVariables false
set_option linter.unusedSimpArgs false
set_option linter.unusedSectionVars false
set_option maxRecDepth 100000
namespace Go.Proofs.YtofckcabpchcmaaGreatDoor
namespace Vw
open Go.RowKit Img
attribute [local irreducible] aE aG End aB Still aN aU RunT Fn aS
attribute [local irreducible] Fr.named
set_option maxHeartbeats 8000000 in
theorem aII(pb:Nat)(cs:List Chunk):∀(x:EL) (b o d c:Nat),nQ cs b o x→c≤2000→d≤41→Wf pb 176 [ptr pb, .pointer (some ⟨b,o,none⟩), .int .i64 d] [bX cs,cF] c (Fr.iG d x.ex c):=fun x=>by
 refine EL.ind (p:=fun x=>∀(b o d c:Nat),nQ cs b o x→c≤2000→d≤41→Wf pb 176 [ptr pb, .pointer (some ⟨b,o,none⟩), .int .i64 d] [bX cs,cF] c (Fr.iG d x.ex c)) (fun x ih b o d c hx hc hd=>?_) x;obtain⟨nm,nm1,nm0,hH⟩:=KW x.k x.n x.s x.kids.length;have hρ:Fr.iG d x.ex c=(Fr.nd d c).bind fun c=>if Fr.lO x.k x.n x.s x.kids.length=true then Fr.iX (d+1) (EL.bW x.kids) c else none:=by
  cases x;simp only[EL.ex,Fr.iG,EL.k,EL.n,EL.s,EL.kids,tP,Jf]
 have hX:=hx.has;have hk2:Fr.eW x.k≤2:=by
  unfold Fr.eW
  repeat' split
  all_goals omega
 refine JE [ptr pb, .pointer (some ⟨b,o,none⟩), .int .i64 d] Tryz.func176 Tryz.ntmps176 fun w S=>?_;refine lE ?_;refine bU (OH pb c hc d) fun e he=>?_;obtain⟨e,c1⟩:=e;rcases he with⟨he,hnd,hc1⟩|⟨he,hnd⟩
 rotate_left
 ·have he':decide (e=0)=false:=decide_eq_false he;refine lE ?_;exact End.aX (e,c1) (he:=rfl) (hp:= .inr ⟨he,by rw[hρ,hnd];rfl⟩)
 dsimp only at he hnd hc1;subst he;rw[hnd,eR]at hρ;have fail:∀e:Int,e≠0→¬Fr.lO x.k x.n x.s x.kids.length=true→(e=0∧Fr.iG d x.ex c=some c1∧c1≤2000)∨(e≠0∧Fr.iG d x.ex c=none):=fun e h1 h2=> .inr ⟨h1,by rw[hρ,if_neg h2]⟩
 repeat' (first|(refine Fz ?_)|(refine bU (aIJ x.k) fun kd hk=>?_)|(refine bU (AJ x.s) fun z hz=>?_)|refine gQ (k:=fun h=>?_) (k':=fun h=>?_)|fail)
 all_goals clear hX
 all_goals first
  |refine End.aX (1,c1) (he:=rfl) (hp:=fail 1 aK fun h'=>?_)
  |refine End.aX (3,c1) (he:=rfl) (hp:=fail 3 aK fun h'=>?_)
  |refine End.aX (5,c1) (he:=rfl) (hp:=fail 5 aK fun h'=>?_)
  |refine End.aX (7,c1) (he:=rfl) (hp:=fail 7 aK fun h'=>?_)
  |skip
 all_goals
  (try have m1:=nm1 (by assumption))
  (try have m0:=nm0 (by assumption))
  first
  |(have h2:=hH.1 h';clear hρ fail;omega)
  |skip
 all_goals
  have hh:=hH.2 aA;rw[if_pos hh]at hρ;clear hH fail;have hd':d≤40:=by unfold Fr.nd at hnd;split at hnd<;>first|contradiction|omega
  have ha:=hx.arr;have hX:=hx.has;refine cK (σ:=Nat×Nat) (fun s=>s.1≤x.kids.length∧s.2≤2000∧Fr.iX (d+1) (EL.bW x.kids) c1=Fr.iX (d+1) (EL.bW (x.kids.drop s.1)) s.2) (fun s=>[(0,ptr pb),(1, .pointer (some ⟨b,o,none⟩)),(2, .int .i64 d),(6, .int .i64 0),(124, .int .i64 x.kids.length),(125, .int .i64 s.1)]) (fun s=>[aO w S,bX cs,cF,aF pb [.int .i64 s.2] 217]) (fun s=>x.kids.length-s.1) (0,c1) ?_ fun s hs K hK=>?_
  ·exact⟨bQ _,hc1,rfl⟩
  refine Jn ?_;obtain⟨k,c2⟩:=s;obtain⟨hk',hc2,hr⟩:=hs;dsimp only at hk' hc2 hr⊢
  by_cases hlt:k<x.kids.length
  ·have hs:Fr.iX (d+1) (EL.bW (x.kids.drop k)) c2=(Fr.iG (d+1) (x.kids.getD k default).ex c2).bind (Fr.iX (d+1) (EL.bW (x.kids.drop (k+1)))):=by
    rw[oN hlt,EL.bW,Fr.iX]
   refine lE ?_;refine bU (ih _ (dW hlt) _ _ (d+1) c2 (hx.mF hlt) hc2 aA) fun e he=>?_;obtain⟨e,c3⟩:=e;rcases he with⟨he,hn,hc3⟩|⟨he,hn⟩
   ·dsimp only at he hn hc3;subst he;refine lE ?_;exact End.bK hK (k+1,c3) ⟨hlt,hc3,by rw[hr,hs,hn];rfl⟩ (by dsimp only;omega)
   ·have he':decide (e=0)=false:=decide_eq_false he;refine lE ?_;exact End.aX (e,c3) (he:=rfl) (hp:= .inr ⟨he,by rw[hρ,hr,hs,hn];rfl⟩)
  ·refine lE ?_;exact End.aX (0,c2) (he:=rfl) (hp:= .inl ⟨rfl,by rw[hρ,hr,iS aA];rfl,hc2⟩)
end Vw
end Go.Proofs.YtofckcabpchcmaaGreatDoor
