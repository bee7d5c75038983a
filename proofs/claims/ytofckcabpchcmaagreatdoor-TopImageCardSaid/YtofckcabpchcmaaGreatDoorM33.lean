/- The form of programs, walked: definitions. -/
import Derived.Test.YtofckcabpchcmaaGreatDoorM32
set_option linter.unusedVariables false
set_option linter.unusedSimpArgs false
set_option linter.unusedSectionVars false
set_option maxRecDepth 100000
namespace Go.Proofs.YtofckcabpchcmaaGreatDoor
namespace Vw
open Go.RowKit Img
attribute [local irreducible] aE aG End aB Still aN aU RunT Fn aS
attribute [local irreducible] Fr.named
theorem Q7{P:Program}{Q:Exit→Act→World→Prop}{N:Nd}{E:Env}{L:List Chunk}{ops:Array Oper}{y c:Code}{l:List Oper}{σ:Type}(ok:σ→Prop)(inv:σ→Env)(mem:σ→List Chunk)(h2:∀s,ok s→aG P Q N y (inv s) (mem s))
  (h1:∀K':Act→World→Prop,(∀s,ok s→∀a w,Sat N a (inv s)→Mem w (mem s)→K' a w)→aE P ops (fN P c (Exit.then K' Q)) N l E L):aE P ops (fN P c (fN P y Q)) N l E L:=by
 rw[show fN P y Q=Exit.then (y.wp P Q) Q by unfold fN;rfl];exact h1 _ (fun s hs a w ha hm=>by have:=h2 s hs;unfold aG at this;exact this a w ha hm)
structure yU(cs:List Chunk)(b o:Nat)(d:DL):Prop where
 has:Has cs b o (mV d)
 sub:∀c∈d.mem,c∈cs
theorem yU.uE{cs:List Chunk}{b o:Nat}{d:DL}(h:yU cs b o d):arr d.po d.params.length d.pc 227 oW d.params∈cs:=h.sub _ gF
theorem yU.body{cs:List Chunk}{b o:Nat}{d:DL}(h:yU cs b o d):tI cs d.bo d.bc d.body:=⟨h.sub _ (gZ _ gF),fun e he=>h.sub _ (gZ _ (gZ _ he))⟩
def uF(l:List Fr.Pm):Bool:=l.all fun p=>Fr.named p.name&&Fr.kF p.type
theorem aDy(d:Fr.Df)(c:Nat):Fr.oS d c=(Fr.nd 1 c).bind fun c=>
  if 1≤d.kind∧d.kind≤4∧Fr.named d.name=true∧((d.kind=2∨d.kind=3)→d.params.length≤6∧uF d.params=true)∧(d.kind=3→Fr.kF d.aP=true)∧(¬d.kind=4→Fr.kF d.type=true)
  then(if d.kind=1 then(if d.cap<1∨20<d.cap then none else some c)else if 50<d.body.length then none else Fr.eH 2 d.body c)else none:=by
 unfold Fr.oS;congr 1
 funext c
 refine ite_congr (propext ?_) (fun _=>rfl) (fun _=>rfl);unfold uF;generalize(d.params.all fun p=>Fr.named p.name&&Fr.kF p.type)=p1;generalize Fr.kF d.aP=p2;generalize Fr.kF d.type=p3;generalize Fr.named d.name=p4
 by_cases h2:d.kind=2<;>by_cases h3:d.kind=3<;>by_cases h4:d.kind=4<;>cases p1<;>cases p2<;>cases p3<;>cases p4<;>simp_all
theorem GK(d:DL)(c:Nat):Fr.oS d.df c=(Fr.nd 1 c).bind fun c=>
  if 1≤d.kind∧d.kind≤4∧Fr.named d.name=true∧((d.kind=2∨d.kind=3)→d.params.length≤6∧uF d.params=true)∧(d.kind=3→Fr.kF d.aP=true)∧(¬d.kind=4→Fr.kF d.type=true)
  then(if d.kind=1 then(if d.cap<1∨20<d.cap then none else some c)else if 50<d.body.length then none else Fr.eH 2 (aM.bV d.body) c)else none:=by
 have h:=aDy d.df c;simp only[show d.df.body.length=d.body.length by show(aM.bV d.body).length=_;rw[yK,Jf]]at h;exact h
set_option maxHeartbeats 8000000 in
theorem aIH(pb:Nat)(cs:List Chunk)(d:DL)(b o c:Nat)(hx:yU cs b o d)(hc:c≤2000):Wf pb 96 [ptr pb, .pointer (some ⟨b,o,none⟩)] [bX cs,cF] c (Fr.oS d.df c):=by
 have hρ:=GK d c;have hX:=hx.has;have ha:=hx.uE;refine JE [ptr pb, .pointer (some ⟨b,o,none⟩)] Tryz.func96 Tryz.ntmps96 fun w S=>?_;refine aI ?_;refine bU (OH pb c hc 1) fun e he=>?_;obtain⟨e,c1⟩:=e;rcases he with⟨he,hnd,hc1⟩|⟨he,hnd⟩
 rotate_left
 ·have he':decide (e=0)=false:=decide_eq_false he;refine aI ?_;exact End.aX (e,c1) (he:=rfl) (hp:= .inr ⟨he,by rw[hρ,hnd];rfl⟩)
 dsimp only at he hnd hc1;subst he;rw[hnd,eR]at hρ;have fail:∀e:Int,e≠0→¬(1≤d.kind∧d.kind≤4∧Fr.named d.name=true∧((d.kind=2∨d.kind=3)→d.params.length≤6∧uF d.params=true)∧(d.kind=3→Fr.kF d.aP=true)∧(¬d.kind=4→Fr.kF d.type=true))→(e=0∧Fr.oS d.df c=some c1∧c1≤2000)∨(e≠0∧Fr.oS d.df c=none):=fun e h1 h2=> .inr ⟨h1,by rw[hρ,if_neg h2]⟩
 by_cases k1:d.kind<1
 ·refine aI ?_;exact End.aX (1,c1) (he:=rfl) (hp:=fail 1 aK fun h=>aA)
 by_cases k4:4<d.kind
 ·refine aI ?_;exact End.aX (1,c1) (he:=rfl) (hp:=fail 1 aK fun h=>aA)
 refine aI ?_;refine bU (AJ d.name) fun z hz=>?_;rcases rF (Fr.named d.name)with hnm|hnm
 rotate_left
 ·refine aI ?_;exact End.aX (7,c1) (he:=rfl) (hp:=fail 7 aK fun h=>by rw[hnm]at h;exact absurd h.2.2.1 aW)
 refine aI ?_;refine Q7 (σ:=Unit) (fun _=>(d.kind=2∨d.kind=3)→d.params.length≤6∧uF d.params=true) (fun _=>[(0,ptr pb),(1, .pointer (some ⟨b,o,none⟩)),(4, .int .i64 0)]) (fun _=>[aO w S,bX cs,cF,aF pb [.int .i64 c1] 217]) ?_ ?_
 ·intro _ hps;refine Jn ?_;have hk:d.kind=1∨d.kind=2∨d.kind=3∨d.kind=4:=aA;rcases hk with k|k|k|k
  ·refine aI ?_;refine bU (DV d.type) fun e he=>?_;rcases he with⟨he,hty⟩|⟨he,ht⟩
   rotate_left
   ·have he':decide (e=0)=false:=decide_eq_false he;refine aI ?_;exact End.aX (e,c1) (he:=rfl) (hp:=fail e he fun h=>by rw[ht]at h;exact absurd (h.2.2.2.2.2 aA) aW)
   subst he;refine aI ?_;rw[if_pos ⟨aA,aA,hnm,hps,fun h=>absurd h aA,fun _=>hty⟩,if_pos k]at hρ
   by_cases h1:d.cap<1
   ·refine aI ?_;exact End.aX (3,c1) (he:=rfl) (hp:= .inr ⟨show(3:Int)≠0 by decide,by rw[hρ,if_pos (.inl h1)]⟩)
   by_cases h2:20<d.cap
   ·refine aI ?_;exact End.aX (3,c1) (he:=rfl) (hp:= .inr ⟨show(3:Int)≠0 by decide,by rw[hρ,if_pos (.inr h2)]⟩)
   refine aI ?_;exact End.aX (0,c1) (he:=rfl) (hp:= .inl ⟨rfl,by rw[hρ,if_neg aA],hc1⟩)
  ·refine aI ?_;refine bU (DV d.type) fun e he=>?_;rcases he with⟨he,hty⟩|⟨he,ht⟩
   rotate_left
   ·have he':decide (e=0)=false:=decide_eq_false he;refine aI ?_;exact End.aX (e,c1) (he:=rfl) (hp:=fail e he fun h=>by rw[ht]at h;exact absurd (h.2.2.2.2.2 aA) aW)
   subst he;refine aI ?_;rw[if_pos ⟨aA,aA,hnm,hps,fun h=>absurd h aA,fun _=>hty⟩,if_neg aA]at hρ;refine bU (DU pb cs d.bo d.bc d.body (fun y _=>OI pb cs y) 2 c1 hx.body hc1 aA) fun e he=>?_;obtain⟨e,c4⟩:=e;refine aI ?_;exact End.aX (e,c4) (he:=rfl) (hp:=by rcases he with⟨h1,h2,h3⟩|⟨h1,h2⟩<;>first|exact .inl ⟨h1,by rw[hρ,h2],h3⟩|exact .inr ⟨h1,by rw[hρ,h2]⟩)
  ·refine aI ?_;refine bU (DV d.aP) fun e he=>?_;rcases he with⟨he,hta⟩|⟨he,ht⟩
   rotate_left
   ·have he':decide (e=0)=false:=decide_eq_false he;refine aI ?_;exact End.aX (e,c1) (he:=rfl) (hp:=fail e he fun h=>by rw[ht]at h;exact absurd (h.2.2.2.2.1 aA) aW)
   subst he;refine aI ?_;refine bU (DV d.type) fun e he=>?_;rcases he with⟨he,hty⟩|⟨he,ht⟩
   rotate_left
   ·have he':decide (e=0)=false:=decide_eq_false he;refine aI ?_;exact End.aX (e,c1) (he:=rfl) (hp:=fail e he fun h=>by rw[ht]at h;exact absurd (h.2.2.2.2.2 aA) aW)
   subst he;refine aI ?_;rw[if_pos ⟨aA,aA,hnm,hps,fun _=>hta,fun _=>hty⟩,if_neg aA]at hρ;refine bU (DU pb cs d.bo d.bc d.body (fun y _=>OI pb cs y) 2 c1 hx.body hc1 aA) fun e he=>?_;obtain⟨e,c4⟩:=e;refine aI ?_;exact End.aX (e,c4) (he:=rfl) (hp:=by rcases he with⟨h1,h2,h3⟩|⟨h1,h2⟩<;>first|exact .inl ⟨h1,by rw[hρ,h2],h3⟩|exact .inr ⟨h1,by rw[hρ,h2]⟩)
  ·refine aI ?_;rw[if_pos ⟨aA,aA,hnm,hps,fun h=>absurd h aA,fun h=>absurd k h⟩,if_neg aA]at hρ;refine bU (DU pb cs d.bo d.bc d.body (fun y _=>OI pb cs y) 2 c1 hx.body hc1 aA) fun e he=>?_;obtain⟨e,c4⟩:=e;refine aI ?_;exact End.aX (e,c4) (he:=rfl) (hp:=by rcases he with⟨h1,h2,h3⟩|⟨h1,h2⟩<;>first|exact .inl ⟨h1,by rw[hρ,h2],h3⟩|exact .inr ⟨h1,by rw[hρ,h2]⟩)
 intro K' hK'
 by_cases h23:d.kind=2∨d.kind=3
 rotate_left
 ·refine aI ?_;exact End.some_ hK' () (fun h=>absurd h h23)
 by_cases h6:6<d.params.length
 ·repeat' (first|(refine Fm ?_)|refine gQ (k:=fun h=>?_) (k':=fun h=>?_)|fail)
  all_goals exact End.aX (5,c1) (he:=rfl) (hp:=fail 5 aK fun h=>by have:=(h.2.2.2.1 h23).1;omega)
 repeat' (first|(refine Fm ?_)|refine gQ (k:=fun h=>?_) (k':=fun h=>?_)|fail)
 all_goals
  refine cK (σ:=Nat) (fun k=>k≤d.params.length∧uF d.params=uF (d.params.drop k)) (fun k=>[(0,ptr pb),(1, .pointer (some ⟨b,o,none⟩)),(4, .int .i64 0),(55, .slice d.po d.params.length d.pc),(56, .int .i64 d.params.length),(57, .int .i64 k)]) (fun k=>[aO w S,bX cs,cF,aF pb [.int .i64 c1] 217]) (fun k=>d.params.length-k) 0 ?_ fun k hk K hK=>?_
  ·exact⟨bQ _,rfl⟩
  refine Jn ?_;obtain⟨hk1,hk2⟩:=hk
  by_cases hlt:k<d.params.length
  rotate_left
  ·refine aI ?_;exact End.some_ hK' () (fun _=>⟨aA,by rw[hk2,iS aA];rfl⟩)
  have hel:=Has.elem ha hlt;have hp:uF (d.params.drop k)=(Fr.named (d.params.getD k default).name&&Fr.kF (d.params.getD k default).type&&uF (d.params.drop (k+1))):=by
   rw[oN hlt];rfl
  repeat(refine Fm ?_;try intro b)
  refine bU (AJ (d.params.getD k default).name) fun z hz=>?_;rcases rF (Fr.named (d.params.getD k default).name)with hn|hn
  rotate_left
  ·refine aI ?_;exact End.aX (7,c1) (he:=rfl) (hp:=fail 7 aK fun h=>by have:=(h.2.2.2.1 h23).2;rw[hk2,hp,hn]at this;simp at this)
  refine aI ?_;refine bU (DV (d.params.getD k default).type) fun e he=>?_;rcases he with⟨he,ht⟩|⟨he,ht⟩
  rotate_left
  ·have he':decide (e=0)=false:=decide_eq_false he;refine aI ?_;exact End.aX (e,c1) (he:=rfl) (hp:=fail e he fun h=>by have:=(h.2.2.2.1 h23).2;rw[hk2,hp,hn,ht]at this;simp at this)
  subst he;refine aI ?_;exact End.bK hK (k+1) ⟨hlt,by rw[hk2,hp,hn,ht];rfl⟩ aA
end Vw
end Go.Proofs.YtofckcabpchcmaaGreatDoor
