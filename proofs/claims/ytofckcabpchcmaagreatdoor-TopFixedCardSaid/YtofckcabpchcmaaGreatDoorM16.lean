/- The form of programs, walked: expressions. -/
import Derived.Test.YtofckcabpchcmaaGreatDoorM15
set_option linter.unusedVariables false
set_option linter.unusedSimpArgs false
set_option linter.unusedSectionVars false
set_option maxRecDepth 100000
namespace Go.Proofs.YtofckcabpchcmaaGreatDoor
namespace Vw
open Go.RowKit Img
attribute [local irreducible] aE aB End aA Still aM aP RunT Fn aO
attribute [local irreducible] Fr.named
set_option maxHeartbeats 8000000 in
theorem aH0(pb:Nat)(cs:List Chunk):∀(x:EL) (b o d c:Nat),mQ cs b o x→c≤2000→d≤41→Wf pb 176 [ptr pb, .pointer (some ⟨b,o,none⟩), .int .i64 (d:Int)] [bE cs,bN] c (Fr.iD d x.ex c):=fun x=>by
 refine EL.ind (p:=fun x=>∀(b o d c:Nat),mQ cs b o x→c≤2000→d≤41→Wf pb 176 [ptr pb, .pointer (some ⟨b,o,none⟩), .int .i64 (d:Int)] [bE cs,bN] c (Fr.iD d x.ex c)) (fun x ih b o d c hx hc hd=>?_) x;obtain⟨nm,nm1,nm0,hH⟩:=I7 x.k x.n x.s x.kids.length;have hρ:Fr.iD d x.ex c=(Fr.nd d c).bind fun c=>if Fr.m8 x.k x.n x.s x.kids.length=true then Fr.iW (d+1) (EL.bT x.kids) c else none:=by
  cases x;simp only[EL.ex,Fr.iD,EL.k,EL.n,EL.s,EL.kids,sW,Jf]
 have hX:=hx.has;have hk2:Fr.gA x.k≤2:=by
  unfold Fr.gA
  repeat' split
  all_goals omega
 refine JE [ptr pb, .pointer (some ⟨b,o,none⟩), .int .i64 (d:Int)] Tryz.func176 Tryz.ntmps176 fun w S=>?_;refine Jn ?_
 repeat(refine Fz ?_)
 refine FQ (NY pb c hc d) ?_;intro e he;refine Jn ?_;obtain⟨e,c1⟩:=e;rcases he with⟨he,hnd,hc1⟩|⟨he,hnd⟩
 rotate_left
 ·have he':decide (e=0)=false:=decide_eq_false he
  repeat(refine Fz ?_)
  exact End.aH (e,c1) (he:=rfl) (hp:= .inr ⟨he,by rw[hρ,hnd];rfl⟩)
 dsimp only at he hnd hc1;subst he;rw[hnd,aU]at hρ;have fail:∀e:Int,e≠0→¬Fr.m8 x.k x.n x.s x.kids.length=true→(e=0∧Fr.iD d x.ex c=some c1∧c1≤2000)∨(e≠0∧Fr.iD d x.ex c=none):=fun e h1 h2=> .inr ⟨h1,by rw[hρ,if_neg h2]⟩
 repeat' (first|(refine Fz ?_)|(refine FQ (aH1 x.k) ?_;intro kd hk;refine Jn ?_)|(refine FQ (y0 x.s) ?_;intro z hz;refine Jn ?_)|refine gG (k:=fun h=>?_) (k':=fun h=>?_)|fail)
 all_goals clear hX
 all_goals first
  |refine End.aH (1,c1) (he:=rfl) (hp:=fail 1 (by decide) fun h'=>?_)
  |refine End.aH (3,c1) (he:=rfl) (hp:=fail 3 (by decide) fun h'=>?_)
  |refine End.aH (5,c1) (he:=rfl) (hp:=fail 5 (by decide) fun h'=>?_)
  |refine End.aH (7,c1) (he:=rfl) (hp:=fail 7 (by decide) fun h'=>?_)
  |skip
 all_goals
  (try have m1:=nm1 (by assumption))
  (try have m0:=nm0 (by assumption))
  first
  |(have h2:=hH.1 h';clear hρ fail;omega)
  |skip
 all_goals
  have hh:=hH.2 (by omega);rw[if_pos hh]at hρ;clear hH fail;have hd':d≤40:=by unfold Fr.nd at hnd;split at hnd<;>first|contradiction|omega
  have ha:=hx.arr;have hX:=hx.has;refine aB.only ((fun s=>[aI w S,bE cs,bN,aD pb [.int .i64 (s.2:Int)] 217]) (0,c1)) (aK) ?_;apply aB.loop (σ:=Nat×Nat) (fun s=>s.1≤x.kids.length∧s.2≤2000∧Fr.iW (d+1) (EL.bT x.kids) c1=Fr.iW (d+1) (EL.bT (x.kids.drop s.1)) s.2) (fun s=>[(0,ptr pb),(1, .pointer (some ⟨b,o,none⟩)),(2, .int .i64 (d:Int)),(6, .int .i64 0),(124, .int .i64 (x.kids.length:Int)),(125, .int .i64 (s.1:Int))]) (fun s=>[aI w S,bE cs,bN,aD pb [.int .i64 (s.2:Int)] 217]) (fun s=>x.kids.length-s.1) (0,c1)
  rotate_left
  exact sb;exact aK;intro s hs K hK;(refine Jn ?_)
  rotate_left
  ·exact⟨bP _,hc1,rfl⟩
  obtain⟨k,c2⟩:=s;obtain⟨hk',hc2,hr⟩:=hs;dsimp only at hk' hc2 hr⊢
  by_cases hlt:k<x.kids.length
  ·have hs:Fr.iW (d+1) (EL.bT (x.kids.drop k)) c2=(Fr.iD (d+1) (x.kids.getD k default).ex c2).bind (Fr.iW (d+1) (EL.bT (x.kids.drop (k+1)))):=by
    rw[nR hlt,EL.bT,Fr.iW]
   repeat(refine Fz ?_)
   refine FQ (ih _ (dQ hlt) _ _ (d+1) c2 (hx.lF hlt) hc2 (by omega)) ?_;intro e he;refine Jn ?_;obtain⟨e,c3⟩:=e;rcases he with⟨he,hn,hc3⟩|⟨he,hn⟩
   ·dsimp only at he hn hc3;subst he
    repeat(refine Fz ?_)
    exact End.bK hK (k+1,c3) ⟨hlt,hc3,by rw[hr,hs,hn];rfl⟩ (by dsimp only;omega)
   ·have he':decide (e=0)=false:=decide_eq_false he
    repeat(refine Fz ?_)
    exact End.aH (e,c3) (he:=rfl) (hp:= .inr ⟨he,by rw[hρ,hr,hs,hn];rfl⟩)
  ·repeat(refine Fz ?_)
   exact End.aH (0,c2) (he:=rfl) (hp:= .inl ⟨rfl,by rw[hρ,hr,lD (by omega)];rfl,hc2⟩)
end Vw
end Go.Proofs.YtofckcabpchcmaaGreatDoor
