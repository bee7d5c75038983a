/- The form of programs, walked: definitions. -/
import Derived.Test.YtofckcabpchcmaaGreatDoorM18
set_option linter.unusedVariables false
set_option linter.unusedSimpArgs false
set_option linter.unusedSectionVars false
set_option maxRecDepth 100000
namespace Go.Proofs.YtofckcabpchcmaaGreatDoor
namespace Vw
open Go.RowKit Img
attribute [local irreducible] aE aB End aA Still aM aP RunT Fn aO
attribute [local irreducible] Fr.named
theorem PV{P:Program}{Q:Exit→Act→World→Prop}{N:Nd}{E:Env}{L:List Chunk}{ops:Array Oper}{y c:Code}{l:List Oper}{σ:Type}(ok:σ→Prop)(inv:σ→Env)(mem:σ→List Chunk)(h2:∀s,ok s→aB P Q N y (inv s) (mem s))
  (h1:∀K':Act→World→Prop,(∀s,ok s→∀a w,Sat N a (inv s)→Mem w (mem s)→K' a w)→aE P ops (fE P c (Exit.then K' Q)) N l E L):aE P ops (fE P c (fE P y Q)) N l E L:=by
 rw[show fE P y Q=Exit.then (y.wp P Q) Q by unfold fE;rfl];exact h1 _ (fun s hs a w ha hm=>by have:=h2 s hs;unfold aB at this;exact this a w ha hm)
structure xP(cs:List Chunk)(b o:Nat)(d:DL):Prop where
 has:Has cs b o (jW d)
 sub:∀c∈d.mem,c∈cs
theorem xP.tD{cs:List Chunk}{b o:Nat}{d:DL}(h:xP cs b o d):arr d.po d.params.length d.pc 227 nB d.params∈cs:=h.sub _ gU
theorem xP.body{cs:List Chunk}{b o:Nat}{d:DL}(h:xP cs b o d):sR cs d.bo d.bc d.body:=⟨h.sub _ (iO _ gU),fun e he=>h.sub _ (iO _ (iO _ he))⟩
def tE(l:List Fr.Pm):Bool:=l.all fun p=>Fr.named p.name&&Fr.jP p.type
theorem aDa(d:Fr.Df)(c:Nat):Fr.nX d c=(Fr.nd 1 c).bind fun c=>
  if 1≤d.kind∧d.kind≤4∧Fr.named d.name=true∧((d.kind=2∨d.kind=3)→d.params.length≤6∧tE d.params=true)∧(d.kind=3→Fr.jP d.aS=true)∧(¬d.kind=4→Fr.jP d.type=true)
  then(if d.kind=1 then(if d.cap<1∨20<d.cap then none else some c)else if 50<d.body.length then none else Fr.dZ 2 d.body c)else none:=by
 unfold Fr.nX;congr 1
 funext c
 refine ite_congr (propext ?_) (fun _=>rfl) (fun _=>rfl);unfold tE;generalize(d.params.all fun p=>Fr.named p.name&&Fr.jP p.type)=p1;generalize Fr.jP d.aS=p2;generalize Fr.jP d.type=p3;generalize Fr.named d.name=p4
 by_cases h2:d.kind=2<;>by_cases h3:d.kind=3<;>by_cases h4:d.kind=4<;>cases p1<;>cases p2<;>cases p3<;>cases p4<;>simp_all
theorem FC(d:DL)(c:Nat):Fr.nX d.df c=(Fr.nd 1 c).bind fun c=>
  if 1≤d.kind∧d.kind≤4∧Fr.named d.name=true∧((d.kind=2∨d.kind=3)→d.params.length≤6∧tE d.params=true)∧(d.kind=3→Fr.jP d.aS=true)∧(¬d.kind=4→Fr.jP d.type=true)
  then(if d.kind=1 then(if d.cap<1∨20<d.cap then none else some c)else if 50<d.body.length then none else Fr.dZ 2 (aJ.bR d.body) c)else none:=by
 have h:=aDa d.df c;simp only[show d.df.body.length=d.body.length by show(aJ.bR d.body).length=_;rw[xJ,Jf]]at h;exact h
set_option maxHeartbeats 8000000 in
theorem aHZ(pb:Nat)(cs:List Chunk)(d:DL)(b o c:Nat)(hx:xP cs b o d)(hc:c≤2000):Wf pb 96 [ptr pb, .pointer (some ⟨b,o,none⟩)] [bE cs,bN] c (Fr.nX d.df c):=by
 have hρ:=FC d c;have hX:=hx.has;have ha:=hx.tD;refine JE [ptr pb, .pointer (some ⟨b,o,none⟩)] Tryz.func96 Tryz.ntmps96 fun w S=>?_;refine Jn ?_
 repeat(refine Fm ?_)
 refine FQ (NY pb c hc 1) ?_;intro e he;refine Jn ?_;obtain⟨e,c1⟩:=e;rcases he with⟨he,hnd,hc1⟩|⟨he,hnd⟩
 rotate_left
 ·have he':decide (e=0)=false:=decide_eq_false he
  repeat(refine Fm ?_)
  exact End.aH (e,c1) (he:=rfl) (hp:= .inr ⟨he,by rw[hρ,hnd];rfl⟩)
 dsimp only at he hnd hc1;subst he;rw[hnd,aU]at hρ;have fail:∀e:Int,e≠0→¬(1≤d.kind∧d.kind≤4∧Fr.named d.name=true∧((d.kind=2∨d.kind=3)→d.params.length≤6∧tE d.params=true)∧(d.kind=3→Fr.jP d.aS=true)∧(¬d.kind=4→Fr.jP d.type=true))→(e=0∧Fr.nX d.df c=some c1∧c1≤2000)∨(e≠0∧Fr.nX d.df c=none):=fun e h1 h2=> .inr ⟨h1,by rw[hρ,if_neg h2]⟩
 by_cases k1:d.kind<1
 ·repeat(refine Fm ?_)
  exact End.aH (1,c1) (he:=rfl) (hp:=fail 1 (by decide) fun h=>by omega)
 by_cases k4:4<d.kind
 ·repeat(refine Fm ?_)
  exact End.aH (1,c1) (he:=rfl) (hp:=fail 1 (by decide) fun h=>by omega)
 repeat(refine Fm ?_)
 refine FQ (y0 d.name) ?_;intro z hz;refine Jn ?_;rcases qC (Fr.named d.name)with hnm|hnm
 rotate_left
 ·repeat(refine Fm ?_)
  exact End.aH (7,c1) (he:=rfl) (hp:=fail 7 (by decide) fun h=>by rw[hnm]at h;exact absurd h.2.2.1 (by simp))
 repeat(refine Fm ?_)
 refine PV (σ:=Unit) (fun _=>(d.kind=2∨d.kind=3)→d.params.length≤6∧tE d.params=true) (fun _=>[(0,ptr pb),(1, .pointer (some ⟨b,o,none⟩)),(4, .int .i64 0)]) (fun _=>[aI w S,bE cs,bN,aD pb [.int .i64 (c1:Int)] 217]) ?_ ?_
 ·intro _ hps;refine Jn ?_;have hk:d.kind=1∨d.kind=2∨d.kind=3∨d.kind=4:=by omega
  rcases hk with k|k|k|k
  ·repeat(refine Fm ?_)
   refine FQ (CW d.type) ?_;intro e he;refine Jn ?_;rcases he with⟨he,hty⟩|⟨he,ht⟩
   rotate_left
   ·have he':decide (e=0)=false:=decide_eq_false he
    repeat(refine Fm ?_)
    exact End.aH (e,c1) (he:=rfl) (hp:=fail e he fun h=>by rw[ht]at h;exact absurd (h.2.2.2.2.2 (by omega)) (by simp))
   subst he
   repeat(refine Fm ?_)
   rw[if_pos ⟨by omega,by omega,hnm,hps,fun h=>absurd h (by omega),fun _=>hty⟩,if_pos k]at hρ
   by_cases h1:d.cap<1
   ·repeat(refine Fm ?_)
    exact End.aH (3,c1) (he:=rfl) (hp:= .inr ⟨show(3:Int)≠0 by decide,by rw[hρ,if_pos (.inl h1)]⟩)
   by_cases h2:20<d.cap
   ·repeat(refine Fm ?_)
    exact End.aH (3,c1) (he:=rfl) (hp:= .inr ⟨show(3:Int)≠0 by decide,by rw[hρ,if_pos (.inr h2)]⟩)
   repeat(refine Fm ?_)
   exact End.aH (0,c1) (he:=rfl) (hp:= .inl ⟨rfl,by rw[hρ,if_neg (by omega)],hc1⟩)
  ·repeat(refine Fm ?_)
   refine FQ (CW d.type) ?_;intro e he;refine Jn ?_;rcases he with⟨he,hty⟩|⟨he,ht⟩
   rotate_left
   ·have he':decide (e=0)=false:=decide_eq_false he
    repeat(refine Fm ?_)
    exact End.aH (e,c1) (he:=rfl) (hp:=fail e he fun h=>by rw[ht]at h;exact absurd (h.2.2.2.2.2 (by omega)) (by simp))
   subst he
   repeat(refine Fm ?_)
   rw[if_pos ⟨by omega,by omega,hnm,hps,fun h=>absurd h (by omega),fun _=>hty⟩,if_neg (by omega)]at hρ;refine FQ (CV pb cs d.bo d.bc d.body (fun y _=>NZ pb cs y) 2 c1 hx.body hc1 (by omega)) ?_;intro e he;refine Jn ?_;obtain⟨e,c4⟩:=e
   repeat(refine Fm ?_)
   exact End.aH (e,c4) (he:=rfl) (hp:=by rcases he with⟨h1,h2,h3⟩|⟨h1,h2⟩<;>first|exact .inl ⟨h1,by rw[hρ,h2],h3⟩|exact .inr ⟨h1,by rw[hρ,h2]⟩)
  ·repeat(refine Fm ?_)
   refine FQ (CW d.aS) ?_;intro e he;refine Jn ?_;rcases he with⟨he,hta⟩|⟨he,ht⟩
   rotate_left
   ·have he':decide (e=0)=false:=decide_eq_false he
    repeat(refine Fm ?_)
    exact End.aH (e,c1) (he:=rfl) (hp:=fail e he fun h=>by rw[ht]at h;exact absurd (h.2.2.2.2.1 (by omega)) (by simp))
   subst he
   repeat(refine Fm ?_)
   refine FQ (CW d.type) ?_;intro e he;refine Jn ?_;rcases he with⟨he,hty⟩|⟨he,ht⟩
   rotate_left
   ·have he':decide (e=0)=false:=decide_eq_false he
    repeat(refine Fm ?_)
    exact End.aH (e,c1) (he:=rfl) (hp:=fail e he fun h=>by rw[ht]at h;exact absurd (h.2.2.2.2.2 (by omega)) (by simp))
   subst he
   repeat(refine Fm ?_)
   rw[if_pos ⟨by omega,by omega,hnm,hps,fun _=>hta,fun _=>hty⟩,if_neg (by omega)]at hρ;refine FQ (CV pb cs d.bo d.bc d.body (fun y _=>NZ pb cs y) 2 c1 hx.body hc1 (by omega)) ?_;intro e he;refine Jn ?_;obtain⟨e,c4⟩:=e
   repeat(refine Fm ?_)
   exact End.aH (e,c4) (he:=rfl) (hp:=by rcases he with⟨h1,h2,h3⟩|⟨h1,h2⟩<;>first|exact .inl ⟨h1,by rw[hρ,h2],h3⟩|exact .inr ⟨h1,by rw[hρ,h2]⟩)
  ·repeat(refine Fm ?_)
   rw[if_pos ⟨by omega,by omega,hnm,hps,fun h=>absurd h (by omega),fun h=>absurd k h⟩,if_neg (by omega)]at hρ;refine FQ (CV pb cs d.bo d.bc d.body (fun y _=>NZ pb cs y) 2 c1 hx.body hc1 (by omega)) ?_;intro e he;refine Jn ?_;obtain⟨e,c4⟩:=e
   repeat(refine Fm ?_)
   exact End.aH (e,c4) (he:=rfl) (hp:=by rcases he with⟨h1,h2,h3⟩|⟨h1,h2⟩<;>first|exact .inl ⟨h1,by rw[hρ,h2],h3⟩|exact .inr ⟨h1,by rw[hρ,h2]⟩)
 intro K' hK'
 by_cases h23:d.kind=2∨d.kind=3
 rotate_left
 ·repeat(refine Fm ?_)
  exact End.some_ hK' () (fun h=>absurd h h23)
 by_cases h6:6<d.params.length
 ·repeat' (first|(refine Fm ?_)|refine gG (k:=fun h=>?_) (k':=fun h=>?_)|fail)
  all_goals exact End.aH (5,c1) (he:=rfl) (hp:=fail 5 (by decide) fun h=>by have:=(h.2.2.2.1 h23).1;omega)
 repeat' (first|(refine Fm ?_)|refine gG (k:=fun h=>?_) (k':=fun h=>?_)|fail)
 all_goals
  refine aB.only ((fun k=>[aI w S,bE cs,bN,aD pb [.int .i64 (c1:Int)] 217]) 0) (aK) ?_;apply aB.loop (σ:=Nat) (fun k=>k≤d.params.length∧tE d.params=tE (d.params.drop k)) (fun k=>[(0,ptr pb),(1, .pointer (some ⟨b,o,none⟩)),(4, .int .i64 0),(55, .slice d.po d.params.length d.pc),(56, .int .i64 (d.params.length:Int)),(57, .int .i64 (k:Int))]) (fun k=>[aI w S,bE cs,bN,aD pb [.int .i64 (c1:Int)] 217]) (fun k=>d.params.length-k) 0
  rotate_left
  exact sb;exact aK;intro k hk K hK;(refine Jn ?_)
  rotate_left
  ·exact⟨bP _,rfl⟩
  obtain⟨hk1,hk2⟩:=hk
  by_cases hlt:k<d.params.length
  rotate_left
  ·repeat(refine Fm ?_)
   exact End.some_ hK' () (fun _=>⟨by omega,by rw[hk2,lD (by omega)];rfl⟩)
  have hel:=Has.elem ha hlt;have hp:tE (d.params.drop k)=(Fr.named (d.params.getD k default).name&&Fr.jP (d.params.getD k default).type&&tE (d.params.drop (k+1))):=by
   rw[nR hlt];rfl
  repeat(refine Fm ?_;try intro b)
  refine FQ (y0 (d.params.getD k default).name) ?_;intro z hz;refine Jn ?_;rcases qC (Fr.named (d.params.getD k default).name)with hn|hn
  rotate_left
  ·repeat(refine Fm ?_)
   exact End.aH (7,c1) (he:=rfl) (hp:=fail 7 (by decide) fun h=>by have:=(h.2.2.2.1 h23).2;rw[hk2,hp,hn]at this;simp at this)
  repeat(refine Fm ?_)
  refine FQ (CW (d.params.getD k default).type) ?_;intro e he;refine Jn ?_;rcases he with⟨he,ht⟩|⟨he,ht⟩
  rotate_left
  ·have he':decide (e=0)=false:=decide_eq_false he
   repeat(refine Fm ?_)
   exact End.aH (e,c1) (he:=rfl) (hp:=fail e he fun h=>by have:=(h.2.2.2.1 h23).2;rw[hk2,hp,hn,ht]at this;simp at this)
  subst he
  repeat(refine Fm ?_)
  exact End.bK hK (k+1) ⟨hlt,by rw[hk2,hp,hn,ht];rfl⟩ (by omega)
end Vw
end Go.Proofs.YtofckcabpchcmaaGreatDoor
