/- What gen writes of an expression: of it is known what is known at each instruction. Plain Lean. -/
import Derived.Test.YtofckcabpchcmaaGreatDoorM44
set_option linter.unusedVariables false
set_option linter.unusedSimpArgs false
set_option linter.unusedSectionVars false
set_option maxRecDepth 100000
namespace Go.Proofs.YtofckcabpchcmaaGreatDoor
namespace Fr
open ImgM Ver
structure BX(P:List Df)(M:aL):Prop where
 aJ:∀s d,dG P s=some d→d.kind≠1→M.aJ.getD (dE P s) default=fH P d∧dE P s<M.aJ.length
 boxes:∀s d,dG P s=some d→d.kind=1→(M.boxes.getD (iC P s) default).1=bO P d.type
 eU:∀s d,dG P s=some d→d.kind=1→iC P s<M.boxes.length
 take:∀s d,dG P s=some d→d.kind=2∨d.kind=3→(fH P d).locals.take (fH P d).params.toNat=d.params.map fun p=>bO P p.type
def jY(C:List (List (aH×Nat)))(H:List Bool):Prop:=∀b∈C,∀p∈b,H.getD p.2 false=true
theorem CP{α:Type}:∀{C:List (List (aH×α))} {s:aH} {a:α},eN C s=some a→∃b∈C,∃p∈b,p.2=a
 |[],_,_,h=>by cases h
 |b::C,s,a,h=>by
  rw[eN]at h
  split at h
  ·next t ht=>
   cases h
   exact⟨b, .head _,_,at_mem ht,rfl⟩
  ·obtain⟨c,hc,hp⟩:=CP h;exact⟨c, .tail _ hc,hp⟩
theorem aCa{k n:Int}{s:aH}{m:Nat}(h:lO k n s m=true):m≤6∧(0≤eW k→(m:Int)=eW k):=by
 unfold lO at h;simp only[JX,Bool.not_eq_true',Bool.and_eq_false_iff,JY,JV,Bool.not_eq_false']at h;obtain⟨⟨-,h1⟩,h2⟩:=h;have hk:eW k≤2:=by
  unfold eW
  split
  ·decide
  split
  ·decide
  split
  ·decide
  ·decide
 constructor
 ·rcases h2 with h2|h2
  ·rcases h1 with h1|h1
   ·omega
   ·omega
  ·omega
 ·intro h0;rcases h1 with h1|h1
  ·omega
  ·exact h1
section
variable{P:List Df}{D:Df}{B:Scope}
theorem yO:∀{want:List Ty} {l:List Ex},eD P D B want l=some ()→fF P D B l=some (want.map bare)
 |[],[],_=>by rw[fF];rfl
 |t::ts,x::l,h=>by
  rw[eD]at h;obtain⟨u,h1,h2⟩:=bF.1 h;unfold same at h1;obtain⟨t',h3,h4⟩:=bF.1 h1;rw[fF,h3,eR,yO h2]
  split at h4
  ·next e=>rw[e];rfl
  ·cases h4
 |[],_::_,h=>by simp[eD]at h
 |_::_,[],h=>by simp[eD]at h
theorem HE(hH:∀d∈P,gR P d=true)(hD:D∈P)(hB:gV P B):∀{l:List Ex} {ts:List Ty},fF P D B l=some ts→∀t∈ts,gA P t=true
 |[],ts,h,t,hm=>by rw[fF]at h;cases h;cases hm
 |x::l,ts,h,t,hm=>by
  rw[fF]at h;obtain⟨t',t1,h⟩:=bF.1 h;obtain⟨us,t2,rfl⟩:=cQ.1 h;rcases cY.1 hm with rfl|hm
  ·exact yP hH hD hB x _ t1
  ·exact HE hH hD hB t2 t hm
theorem Kd.bare{t:Ty}(h:Kd t):Kd (bare t):=by
 unfold Fr.bare
 split
 ·exact h
 ·exact h
structure tF(P:List Df):Prop where
 type:∀d∈P,d.kind≠4→Kd d.type
 aP:∀d∈P,d.kind=3→Kd d.aP
 params:∀d∈P,d.kind=2∨d.kind=3→∀p∈d.params,Kd p.type
theorem HB(hH:∀d∈P,gR P d=true)(hD:D∈P)(hB:gV P B)(hK:tF P)(hBK:∀b∈B,∀p∈b,Kd p.2){x:Ex}{t:Ty}(h:b9 P D B x=some t):Kd t:=by
 have hb:Kd gM:=⟨aK,aK⟩;have hn:Kd kJ:=⟨aK,aK⟩;obtain⟨k,n,s,l⟩:=x;rw[b9]at h
 by_cases h1:k=1
 ·rw[if_pos h1]at h;cases h;exact hn
 rw[if_neg h1]at h
 by_cases h2:k=2
 ·rw[if_pos h2]at h;cases h;exact hb
 rw[if_neg h2]at h
 by_cases h3:k=3
 ·rw[if_pos h3]at h;obtain⟨b,hb',hm⟩:=LF h;exact hBK b hb' _ hm
 rw[if_neg h3]at h
 by_cases h4:k=4
 ·rw[if_pos h4]at h;obtain⟨_,_,rfl⟩:=cQ.1 h;exact hn
 rw[if_neg h4]at h
 by_cases h5:k=5
 ·rw[if_pos h5]at h;obtain⟨_,_,rfl⟩:=cQ.1 h;exact hb
 rw[if_neg h5]at h
 by_cases h11:k=11∨k=12
 ·rw[if_pos h11]at h;obtain⟨ts,_,h⟩:=bF.1 h
  split at h
  ·split at h<;>cases h;exact hb
  ·cases h
 rw[if_neg h11]at h
 by_cases h19:k=19
 ·rw[if_pos h19]at h;obtain⟨d,hd,h⟩:=bF.1 h;obtain⟨_,_,rfl⟩:=cQ.1 h;obtain⟨e1,e2⟩:=lD hd;exact(hK.type d (pI e1).1 aA).bare
 rw[if_neg h19]at h
 by_cases h20:k=20
 ·rw[if_pos h20]at h;obtain⟨d,hd,rfl⟩:=cQ.1 h;obtain⟨e1,e2⟩:=lD hd;exact(hK.type d (pI e1).1 aA).bare
 rw[if_neg h20]at h
 by_cases h21:k=21
 ·rw[if_pos h21]at h
  split at h
  ·next hk=>
   obtain⟨_,_,rfl⟩:=cQ.1 h;exact(hK.aP D hD hk).bare
  ·cases h
 rw[if_neg h21]at h
 by_cases h22:k=22
 ·rw[if_pos h22]at h;obtain⟨d,hd,h⟩:=bF.1 h;obtain⟨_,_,rfl⟩:=cQ.1 h;exact⟨show(1:Int)≤3 by decide,show(3:Int)≤3 by decide⟩
 rw[if_neg h22]at h
 by_cases h23:k=23
 ·rw[if_pos h23]at h;obtain⟨ts,hts,h⟩:=bF.1 h
  split at h
  ·next a b=>
   split at h
   ·cases h
   ·next hp=>
    obtain⟨d,hd,h⟩:=bF.1 h
    split at h<;>cases h
    obtain⟨d',hd'⟩:=x9 (HE hH hD hB hts a (.head _)) (by simpa using hp);obtain⟨e1,e2⟩:=lD hd';rw[hd]at e1;cases e1;exact(hK.type d (pI hd).1 aA).bare
  ·cases h
 rw[if_neg h23]at h
 by_cases h24:k=24
 ·rw[if_pos h24]at h;obtain⟨ts,_,h⟩:=bF.1 h
  split at h
  ·split at h<;>cases h;exact hb
  ·cases h
 rw[if_neg h24]at h;obtain⟨_,_,rfl⟩:=cQ.1 h
 split
 ·exact hb
 ·exact hn
theorem X7(hH:∀d∈P,gR P d=true)(hD:D∈P)(hB:gV P B)(hK:tF P)(hBK:∀b∈B,∀p∈b,Kd p.2):∀{l:List Ex} {ts:List Ty},fF P D B l=some ts→∀t∈ts,Kd t
 |[],ts,h,t,hm=>by rw[fF]at h;cases h;cases hm
 |x::l,ts,h,t,hm=>by
  rw[fF]at h;obtain⟨t',t1,h⟩:=bF.1 h;obtain⟨us,t2,rfl⟩:=cQ.1 h;rcases cY.1 hm with rfl|hm
  ·exact HB hH hD hB hK hBK t1
  ·exact X7 hH hD hB hK hBK t2 t hm
theorem HD:fF P D B []=some []:=by rw[fF]
end
structure EE(P:List Df)(D:Df)(tk:Int)(u:bM):Prop where
 kind:u.kind=D.kind
 result:D.kind≠4→u.result=bO P D.type
 aP:u.aP=tk
structure QI(P:List Df)(M:aL)(u:bM)(U:Us)(i:aT):Prop where
 form:i.op≠21→i.op≠22→eV M u i=0
 call:i.op=23∨i.op=29→∃s∈U.calls,i.a=(dE P s:Int)∧∃d,dG P s=some d∧d.kind≠1
 send:i.op=26→∃s∈U.iP,i.a=(iC P s:Int)∧∃d,dG P s=some d∧d.kind=1
 recv:i.op=27→∃s∈U.gW,i.a=(iC P s:Int)∧∃d,dG P s=some d∧d.kind=1
section
variable{P:List Df}{M:aL}{u:bM}{U:Us}{i:aT}
theorem QI.of(h:eV M u i=0)(h2:i.op≠23∧i.op≠29∧i.op≠26∧i.op≠27):QI P M u U i:=⟨fun _ _=>h,aA,aA,aA⟩
theorem QI.jmp(h:i.op=21∨i.op=22):QI P M u U i:=⟨aA,aA,aA,aA⟩
theorem QI.plain(h:1≤i.op∧i.op≤32)(h2:i.op≠2∧i.op≠3∧i.op≠4∧i.op≠21∧i.op≠22∧i.op≠23∧i.op≠29∧i.op≠26∧i.op≠27):QI P M u U i:= .of (by
 unfold eV
 repeat rw[if_neg aA]) aA
theorem QI.two{a n:Int}(h:a=0∨a=1):QI P M u U ⟨2,a,n⟩:= .of (by
 unfold eV;rw[if_pos rfl];have:(decide (a=0)||decide (a=1))=true:=by simpa using h
 show kG (decide (a=0)||decide (a=1))=0;rw[this];rfl) (by show(2:Int)≠23∧(2:Int)≠29∧(2:Int)≠26∧(2:Int)≠27;decide)
theorem QI.loc{k:Nat}{op n:Int}(ho:op=3∨op=4)(h:k<u.locals.length):QI P M u U ⟨op,(k:Int),n⟩:= .of (by
 unfold eV;rw[if_neg (show¬op=2 by omega),if_pos ho];have:(decide ((0:Int)≤(k:Int))&&decide ((k:Int)<(u.locals.length:Int)))=true:=by simp;omega
 show kG (decide ((0:Int)≤(k:Int))&&decide ((k:Int)<(u.locals.length:Int)))=0;rw[this];rfl) (by show op≠23∧op≠29∧op≠26∧op≠27;omega)
theorem FK{k:Nat}{x:Int}(h:k<M.aJ.length)(hk:(M.aJ.getD k default).kind=x):isUnit M (k:Int) x=true:=by
 unfold isUnit;rw[Jj,hk];simp;omega
theorem QI.unit{s:aH}{op n:Int}(ho:op=23∧isUnit M (dE P s:Int) 2=true∨op=29∧isUnit M (dE P s:Int) 3=true)(hs:s∈U.calls)(hd:∃d,dG P s=some d∧d.kind≠1):QI P M u U ⟨op,(dE P s:Int),n⟩:=by
 refine⟨fun _ _=>?_,fun _=>⟨s,hs,rfl,hd⟩,fun h=>?_,fun h=>?_⟩
 ·unfold eV;rw[if_neg (show¬op=2 by omega),if_neg (show¬(op=3∨op=4) by omega),if_neg (show¬(op=21∨op=22) by omega)];rcases ho with⟨h,hu⟩|⟨h,hu⟩
  ·rw[if_pos (show op=23 from h),show isUnit M (aT.mk op (dE P s:Int) n).a 2=true from hu];rfl
  ·rw[if_neg (show¬op=23 by omega),if_pos (show op=29 from h),show isUnit M (aT.mk op (dE P s:Int) n).a 3=true from hu];rfl
 ·have h:op=26:=h;omega
 ·have h:op=27:=h;omega
theorem QD{k:Nat}{op n:Int}(ho:op=26∨op=27)(h:k<M.boxes.length):eV M u ⟨op,(k:Int),n⟩=0:=by
 unfold eV;rw[if_neg (show¬op=2 by omega),if_neg (show¬(op=3∨op=4) by omega),if_neg (show¬(op=21∨op=22) by omega),if_neg (show¬op=23 by omega),if_neg (show¬op=29 by omega),if_pos ho];have:(decide ((0:Int)≤(k:Int))&&decide ((k:Int)<(M.boxes.length:Int)))=true:=by simp;omega
 show kG (decide ((0:Int)≤(k:Int))&&decide ((k:Int)<(M.boxes.length:Int)))=0;rw[this];rfl
theorem QI.aFJ{s:aH}{n:Int}(h:iC P s<M.boxes.length)(hs:s∈U.gW)(hd:∃d,dG P s=some d∧d.kind=1):QI P M u U ⟨27,(iC P s:Int),n⟩:=
 ⟨fun _ _=>QD (.inr rfl) h,fun h=>absurd (show(27:Int)=23∨(27:Int)=29 from h) aK,fun h=>absurd (show(27:Int)=26 from h) aK,fun _=>⟨s,hs,rfl,hd⟩⟩
theorem QI.aGG{s:aH}{n:Int}(h:iC P s<M.boxes.length)(hs:s∈U.iP)(hd:∃d,dG P s=some d∧d.kind=1):QI P M u U ⟨26,(iC P s:Int),n⟩:=
 ⟨fun _ _=>QD (.inl rfl) h,fun h=>absurd (show(26:Int)=23∨(26:Int)=29 from h) aK,fun _=>⟨s,hs,rfl,hd⟩,fun h=>absurd (show(26:Int)=27 from h) aK⟩
end
theorem SN{l r:List Int}{k:Nat}(h:k<l.length):(l ++r).getD k 0=l.getD k 0:=Ver.sN h
theorem VV(w:Wr)(i:aT):(w.put i.op i.a i.n).code=w.code ++[i]:=rfl
section
variable{P:List Df}{D:Df}{tk:Int}{M:aL}{u:bM}{U:Us}{X:Int→Shape→Prop}{r:List Int}{H:List Bool}(G:wX P D tk)(hM:BX P M)(hU:EE P D tk u)(hK:tF P)
include G hM hU hK
mutual
theorem WS{B:Scope}(hB:gV P B)(hBK:∀b∈B,∀p∈b,Kd p.2):∀(x:Ex) (w:Wr) (d c c':Nat) (t:Ty) (S:List Int),cX P w.locals B w.blocks→iG d x c=some c'→b9 P D B x=some t→jY w.blocks H→u.locals=w.locals ++r→S.length+7*(41-d)≤300→(∀q∈(oF x).1,q∈U.calls)→(∀q∈(oF x).2,q∈U.gW)→
  ∃cd,(bD P tk x w).1.code=w.code ++cd∧cE M u (QI P M u U) X w.code.length cd (S,H) (S ++[bO P t],H)
 | .mk k n s l,w,d,c,c',t,S,hc,h,ht,hV,hl,hS,u1,u2=>by
  rw[oF]at u1 u2;have hk:=DY P tk l w;rw[iG]at h;obtain⟨c1,hn,h⟩:=bF.1 h;have hd:d≤40:=by
   unfold nd at hn
   split at hn
   ·cases hn
   ·omega
  split at h
  rotate_left
  ·cases h
  next hh=>
  obtain⟨hk6,hkn⟩:=aCa hh;have hr:1≤k∧k≤24:=by
   unfold lO at hh;simp only[JX,JV]at hh;exact⟨hh.1.1.1.1.1.1,hh.1.1.1.1.1.2⟩
  have fin:∀(ts:List Ty) (i:aT),QI P M u U i→fF P D B l=some ts→(bD P tk (.mk k n s l) w).1=(dS P tk l w).1.put i.op i.a i.n→cS M u i (S ++ts.map (bO P),H)=Fl (S ++[bO P t]) H→i.op≠21→i.op≠22→
    ∃cd,(bD P tk (.mk k n s l) w).1.code=w.code ++cd∧cE M u (QI P M u U) X w.code.length cd (S,H) (S ++[bO P t],H):=fun ts i hQ h1 h2 h3 h4 h5=>by
   obtain⟨cl,e1,e2⟩:=WT hB hBK l w (d+1) _ _ ts S hc h h1 hV hl aA (fun q hq=>u1 q (mQ _ hq)) (fun q hq=>u2 q (mQ _ hq));refine⟨cl ++[i],by rw[h2,VV,e1,Jt],e2.append (cE.op hQ h3 h4 h5)⟩
  have nil:l.length=0→l=[]:=qC;have hS1:S.length<300:=aA;rw[ON]at fin⊢;rw[b9]at ht;have n01:k=2→n=0∨n=1:=fun h=>by
   unfold lO at hh;simp only[JX,Bool.not_eq_true',Bool.and_eq_false_iff,JY,JV,Bool.not_eq_false']at hh;rcases hh.1.1.1.2 with(h'|h')|h'
   ·exact absurd h h'
   ·exact .inl h'
   ·exact .inr h'
  have k0:k=1∨k=2∨k=3∨k=20→l=[]:=fun h=>nil (by
   have:eW k=0:=by unfold eW;rw[if_pos aA]
   omega)
  have two:6≤k∧k≤18→∃a b,l=[a,b]:=fun h=>by
   have:eW k=2:=by unfold eW;rw[if_neg aA,if_neg aA,if_pos aA]
   have hl2:l.length=2:=aA
   match l,hl2 with
   |[a,b],_=>exact⟨a,b,rfl⟩
  by_cases h1:k=1
  ·obtain rfl:=k0 aA;rw[if_pos h1]at ht fin⊢
   cases ht
   exact fin [] ⟨1,0,n⟩ (.plain (show(1:Int)≤1∧(1:Int)≤32 by decide) (show(1:Int)≠2∧(1:Int)≠3∧(1:Int)≠4∧(1:Int)≠21∧(1:Int)≠22∧(1:Int)≠23∧(1:Int)≠29∧(1:Int)≠26∧(1:Int)≠27 by decide)) HD rfl (by rw[m9,eS];exact WU 0 n hS1) (by show(1:Int)≠21;decide) (by show(1:Int)≠22;decide)
  rw[if_neg h1]at ht fin⊢
  by_cases h2:k=2
  ·obtain rfl:=k0 aA;rw[if_pos h2]at ht fin⊢
   cases ht
   exact fin [] ⟨2,n,0⟩ (.two (n01 h2)) HD rfl (by rw[m9,eS];exact WV n 0 hS1) (by show(2:Int)≠21;decide) (by show(2:Int)≠22;decide)
  rw[if_neg h2]at ht fin⊢
  by_cases h3:k=3
  ·obtain rfl:=k0 aA;rw[if_pos h3]at ht fin⊢;obtain⟨q,q1,q2,q3⟩:=hc.look ht;have hq:(dS P tk [] w).1.look s=q:=by
    rw[dS];unfold Wr.look;rw[q1];rfl
   rw[hq]at fin⊢;obtain⟨b,hb,p,hp,e⟩:=CP q1;have hv:H.getD q false=true:=by rw[←e];exact hV b hb p hp
   refine fin [] ⟨3,(q:Int),0⟩ (.loc (.inl rfl) (by rw[hl,Jl];omega)) HD rfl ?_ (by show(3:Int)≠21;decide) (by show(3:Int)≠22;decide);have:=aFt (M:=M) (u:=u) q 0 hS1 hv;rw[hl,SN q2,q3]at this;simpa using this
  rw[if_neg h3]at ht fin⊢
  by_cases h4:k=4
  ·rw[if_pos h4]at ht fin⊢;obtain⟨_,ha,rfl⟩:=cQ.1 ht;exact fin _ ⟨6,0,0⟩ (.plain aK aK) (yO ha) rfl (aFy 0 0 hS1) aK aK
  rw[if_neg h4]at ht fin⊢
  by_cases h5:k=5
  ·rw[if_pos h5]at ht fin⊢;obtain⟨_,ha,rfl⟩:=cQ.1 ht;exact fin _ ⟨7,0,0⟩ (.plain aK aK) (yO ha) rfl (aFz 0 0 hS1) aK aK
  rw[if_neg h5]at ht fin⊢
  by_cases h11:k=11∨k=12
  ·rw[if_pos h11]at ht;rw[if_pos (show 6≤k∧k≤18 by omega)]at fin⊢;obtain⟨ts,hts,ht⟩:=bF.1 ht
   split at ht
   ·next a b=>
    split at ht
    ·next hp=>
     cases ht
     obtain⟨rfl,hp⟩:=hp;have ht12:bO P a=1∨bO P a=2:=by
      obtain⟨k1,k2⟩:=X7 G.gS G.mem hB hK hBK hts a (.head _);rw[wG hp];have:a.kind≠3:=by unfold cV at hp;simpa using hp
      omega
     exact fin _ ⟨8+k-6,0,0⟩ (.plain (show 1≤8+k-6∧8+k-6≤32 by omega) (show 8+k-6≠2∧8+k-6≠3∧8+k-6≠4∧8+k-6≠21∧8+k-6≠22∧8+k-6≠23∧8+k-6≠29∧8+k-6≠26∧8+k-6≠27 by omega)) hts rfl (aGB 0 0 _ hS1 (by show 8+k-6=13∨8+k-6=14;omega) ht12) (by show 8+k-6≠21;omega) (by show 8+k-6≠22;omega)
    ·cases ht
   ·cases ht
  rw[if_neg h11]at ht
  by_cases h618:6≤k∧k≤18
  ·(repeat rw[if_neg aA]at ht)
   rw[if_pos h618]at fin⊢;obtain⟨_,ha,rfl⟩:=cQ.1 ht;obtain⟨a,b,rfl⟩:=two h618;have hts:=yO ha;refine fin _ ⟨8+k-6,0,0⟩ (.plain (show 1≤8+k-6∧8+k-6≤32 by omega) (show 8+k-6≠2∧8+k-6≠3∧8+k-6≠4∧8+k-6≠21∧8+k-6≠22∧8+k-6≠23∧8+k-6≠29∧8+k-6≠26∧8+k-6≠27 by omega)) hts rfl ?_ (by show 8+k-6≠21;omega) (by show 8+k-6≠22;omega)
   by_cases h17:17≤k
   ·simp only[if_pos h17,if_pos (show 13≤k by omega)];exact aGA 0 0 hS1 aA
   ·simp only[if_neg h17]
    by_cases h13:13≤k
    ·simp only[if_pos h13];exact aGC 0 0 hS1 aA
    ·simp only[if_neg h13];exact aGD 0 0 hS1 aA
  rw[if_neg h618]at fin⊢
  by_cases h19:k=19
  ·rw[if_pos h19]at ht fin⊢;obtain⟨e,he,ht⟩:=bF.1 ht;obtain⟨_,ha,rfl⟩:=cQ.1 ht;obtain⟨f1,f2⟩:=lD he;obtain⟨g1,g2⟩:=hM.aJ _ _ f1 aA;refine fin _ ⟨23,(dE P s:Int),0⟩ (.unit (.inl ⟨rfl,FK g2 (by rw[g1];exact f2)⟩) (u1 s (kY _ (by rw[if_pos (.inl h19)];exact .head _))) ⟨e,f1,aA⟩) (yO ha) rfl ?_ (by show(23:Int)≠21;decide) (by show(23:Int)≠22;decide);have hk2:=hM.take _ _ f1 (.inl f2);have:=aFo (M:=M) (u:=u) (S:=S) (H:=H) (l:=e.params.map fun p=>bO P p.type) (dE P s) 0 hS1 (by rw[g1];exact hk2);rw[g1,show(fH P e).result=bO P e.type from if_neg aA]at this;rw[m5,←this,qG,qG];congr 3;exact List.map_congr_left fun p _=>m5 _
  rw[if_neg h19]at ht fin⊢
  by_cases h20:k=20
  ·obtain rfl:=k0 aA;rw[if_pos h20]at ht fin⊢;obtain⟨e,he,rfl⟩:=cQ.1 ht;obtain⟨f1,f2⟩:=lD he;refine fin [] ⟨27,(iC P s:Int),0⟩ (.aFJ (hM.eU _ _ f1 f2) (u2 s (kY _ (by rw[if_pos h20];exact .head _))) ⟨e,f1,f2⟩) HD rfl ?_ (by show(27:Int)≠21;decide) (by show(27:Int)≠22;decide);have:=aFq (M:=M) (u:=u) (H:=H) (iC P s) 0 hS1;rw[hM.boxes _ _ f1 f2]at this;rw[m5];simpa using this
  rw[if_neg h20]at ht fin⊢
  by_cases h21:k=21
  ·rw[if_pos h21]at ht;rw[if_neg aA,if_pos h21]at fin⊢
   split at ht
   ·next hg=>
    obtain⟨_,ha,rfl⟩:=cQ.1 ht;refine fin _ ⟨31,0,0⟩ (.plain aK aK) (yO ha) rfl ?_ aK aK;have:=aFv (M:=M) (u:=u) (S:=S) (H:=H) 0 0 hS1 (hU.kind.trans hg);rw[hU.aP,G.aP hg,hU.result aA]at this;rw[m5,←this];simp only[fI,m9,m5]
   ·cases ht
  rw[if_neg h21]at ht
  by_cases h22:k=22
  ·rw[if_pos h22]at ht fin⊢;obtain⟨e,he,ht⟩:=bF.1 ht;obtain⟨_,ha,rfl⟩:=cQ.1 ht;obtain⟨f1,f2⟩:=lD he;obtain⟨g1,g2⟩:=hM.aJ _ _ f1 aA;refine fin _ ⟨29,(dE P s:Int),0⟩ (.unit (.inr ⟨rfl,FK g2 (by rw[g1];exact f2)⟩) (u1 s (kY _ (by rw[if_pos (.inr h22)];exact .head _))) ⟨e,f1,aA⟩) (yO ha) rfl ?_ (by show(29:Int)≠21;decide) (by show(29:Int)≠22;decide);have hk2:=hM.take _ _ f1 (.inr f2);have:=aFs (M:=M) (u:=u) (S:=S) (H:=H) (l:=e.params.map fun p=>bO P p.type) (dE P s) 0 hS1 (by rw[g1];exact hk2);rw[show bO P ⟨3,s⟩=10+(dE P s:Int)from DQ rfl,←this,qG,qG];congr 3;exact List.map_congr_left fun p _=>m5 _
  rw[if_neg h22]at ht fin⊢;rw[if_neg h21]at fin⊢;have gen3:∀a:Ty,gA P a=true→cV a=false→∃e,dG P a.gen=some e∧e.kind=3∧bO P a=10+(dE P a.gen:Int)∧isUnit M (dE P a.gen:Int) 3=true∧M.aJ.getD (dE P a.gen) default=fH P e:=fun a h1 h2=>by
   obtain⟨e,he⟩:=x9 h1 h2;obtain⟨f1,f2⟩:=lD he;obtain⟨g1,g2⟩:=hM.aJ _ _ f1 aA;exact⟨e,f1,f2,DQ h2,FK g2 (by rw[g1];exact f2),g1⟩
  by_cases h23:k=23
  ·rw[if_pos h23]at ht;rw[if_neg aA]at fin⊢;obtain⟨ts,hts,ht⟩:=bF.1 ht
   split at ht
   ·next a b=>
    split at ht
    ·cases ht
    ·next hp=>
     obtain⟨e,he,ht⟩:=bF.1 ht
     split at ht
     ·next hb=>
      cases ht
      subst hb;obtain⟨e',f1,f2,f3,f4,f5⟩:=gen3 a (HE G.gS G.mem hB hts a (.head _)) (by simpa using hp);rw[he]at f1
      cases f1
      refine fin _ ⟨30,0,0⟩ (.plain aK aK) hts rfl ?_ aK aK;have:=aFu (M:=M) (u:=u) (S:=S) (H:=H) 0 0 (dE P a.gen) hS1 f4;rw[f5,show(fH P e).aP=bO P e.aP from if_pos f2,show(fH P e).result=bO P e.type from if_neg aA]at this;rw[m5,←this];simp only[fI,m9,m5,f3]
     ·cases ht
   ·cases ht
  rw[if_neg h23]at ht;have h24:k=24:=aA;rw[if_pos h24]at ht fin⊢;obtain⟨ts,hts,ht⟩:=bF.1 ht
  split at ht
  ·next a=>
   split at ht
   ·cases ht
   ·next hp=>
    cases ht
    obtain⟨e',f1,f2,f3,f4,f5⟩:=gen3 a (HE G.gS G.mem hB hts a (.head _)) (by simpa using hp);refine fin _ ⟨32,0,0⟩ (.plain aK aK) hts rfl ?_ aK aK;have:=aFw (M:=M) (u:=u) (S:=S) (H:=H) 0 0 (dE P a.gen) hS1 f4;simp only[fI,m9,f3];exact this
  ·cases ht
theorem WT{B:Scope}(hB:gV P B)(hBK:∀b∈B,∀p∈b,Kd p.2):∀(l:List Ex) (w:Wr) (d c c':Nat) (ts:List Ty) (S:List Int),cX P w.locals B w.blocks→iX d l c=some c'→fF P D B l=some ts→jY w.blocks H→u.locals=w.locals ++r→S.length+l.length+7*(41-d)≤301→(∀q∈(mO l).1,q∈U.calls)→(∀q∈(mO l).2,q∈U.gW)→
  ∃cd,(dS P tk l w).1.code=w.code ++cd∧cE M u (QI P M u U) X w.code.length cd (S,H) (S ++ts.map (bO P),H)
 |[],w,d,c,c',ts,S,hc,h,ht,hV,hl,hS,u1,u2=>by
  rw[fF]at ht;cases ht;refine⟨[],by rw[dS,eS],?_⟩;rw[m9,eS];exact cE.nil (Wk.refl _)
 |x::l,w,d,c,c',ts,S,hc,h,ht,hV,hl,hS,u1,u2=>by
  rw[mO]at u1 u2;rw[iX]at h;obtain⟨c1,h1,h2⟩:=bF.1 h;rw[fF]at ht;obtain⟨t,t1,ht⟩:=bF.1 ht;obtain⟨us,t2,rfl⟩:=cQ.1 ht;obtain⟨k1,k2,k3⟩:=wR P tk x w;rw[JW]at hS;obtain⟨ca,a1,a2⟩:=WS hB hBK x w d _ _ t S hc h1 t1 hV hl aA (fun q hq=>u1 q (kY _ hq)) (fun q hq=>u2 q (kY _ hq));obtain⟨cb,b1,b2⟩:=WT hB hBK l (bD P tk x w).1 d _ _ us (S ++[bO P t]) (by rw[k1,k2];exact hc) h2 t2 (by rw[k2];exact hV) (by rw[k1];exact hl) (by rw[Jl,gE];omega) (fun q hq=>u1 q (mQ _ hq)) (fun q hq=>u2 q (mQ _ hq));refine⟨ca ++cb,by rw[OO,b1,a1,Jt],?_⟩;rw[a1,Jl]at b2;rw[fI,show S ++bO P t::us.map (bO P)=(S ++[bO P t]) ++us.map (bO P) by simp];exact a2.append b2
end
end
section
variable{P:List Df}{tk:Int}
mutual
theorem aIV:∀(x:St) (w:Wr),(∃r,(kL P tk x w).locals=w.locals ++r)∧(kL P tk x w).blocks.tail=w.blocks.tail
 | .mk k s x b e,w=>by
  obtain⟨x1,x2, -⟩:=wR P tk x w;rw[HR]
  by_cases k3:k=3
  ·rw[if_pos k3];obtain⟨⟨r1,b1⟩,b2⟩:=uU b ((bD P tk x w).1.put 22 0 0).open_;dsimp only;generalize hv:((bZ P tk b ((bD P tk x w).1.put 22 0 0).open_).close).put 21 0 0=v;have v1:v.locals=w.locals ++r1:=by rw[←hv];show(bZ P tk b _).locals=_;rw[b1];show(bD P tk x w).1.locals ++r1=_;rw[x1]
   have v2:v.blocks=w.blocks:=by rw[←hv];show(bZ P tk b _).blocks.tail=_;rw[b2];exact x2
   obtain⟨⟨r2,e1⟩,e2⟩:=uU e (v.patch ((bD P tk x w).1.code.length) v.code.length).open_;refine⟨⟨r1 ++r2,?_⟩,?_⟩
   ·show(bZ P tk e _).locals=_;rw[e1];show v.locals ++r2=_;rw[v1,Jt]
   ·show(bZ P tk e _).blocks.tail.tail=_;rw[e2];show v.blocks.tail=_;rw[v2]
  rw[if_neg k3]
  by_cases k4:k=4
  ·rw[if_pos k4];obtain⟨⟨r1,b1⟩,b2⟩:=uU b ((bD P tk x w).1.put 22 0 0).open_;refine⟨⟨r1,?_⟩,?_⟩
   ·show(bZ P tk b _).locals=_;rw[b1];show(bD P tk x w).1.locals ++r1=_;rw[x1]
   ·show(bZ P tk b _).blocks.tail.tail=_;rw[b2];show(bD P tk x w).1.blocks.tail=_;rw[x2]
  rw[if_neg k4]
  by_cases k6:k=6
  ·rw[if_pos k6];exact⟨⟨[],by rw[eS];rfl⟩,rfl⟩
  rw[if_neg k6]
  by_cases k1:k=1
  ·unfold nP;rw[if_pos k1];refine⟨⟨[(bD P tk x w).2],?_⟩,?_⟩
   ·show(bD P tk x w).1.locals ++_=_;rw[x1]
   ·show((bD P tk x w).1.gK s (bD P tk x w).2).blocks.tail=_;unfold Wr.gK;dsimp only;rw[x2]
    cases w.blocks<;>rfl
  ·have key:∀y:Wr,(y=(bD P tk x w).1∨∃op a n,y=(bD P tk x w).1.put op a n)→(∃r,y.locals=w.locals ++r)∧y.blocks.tail=w.blocks.tail:=fun y hy=>by
    rcases hy with rfl|⟨op,a,n,rfl⟩
    ·exact⟨⟨[],by rw[x1,eS]⟩,by rw[x2]⟩
    ·exact⟨⟨[],by show(bD P tk x w).1.locals=_;rw[x1,eS]⟩,by show(bD P tk x w).1.blocks.tail=_;rw[x2]⟩
   refine key _ ?_;unfold nP;rw[if_neg k1]
   repeat' (first|exact .inr ⟨_,_,_,rfl⟩|exact .inl rfl|refine lF (p:=fun y=>y=(bD P tk x w).1∨∃op a n,y=(bD P tk x w).1.put op a n) (fun _=>?_) (fun _=>?_))
theorem uU:∀(l:List St) (w:Wr),(∃r,(bZ P tk l w).locals=w.locals ++r)∧(bZ P tk l w).blocks.tail=w.blocks.tail
 |[],w=>by rw[bZ];exact⟨⟨[],by rw[eS]⟩,rfl⟩
 |x::l,w=>by
  obtain⟨⟨r1,a1⟩,a2⟩:=aIV x w;obtain⟨⟨r2,b1⟩,b2⟩:=uU l (kL P tk x w);rw[bZ];exact⟨⟨r1 ++r2,by rw[b1,a1,Jt]⟩,b2.trans a2⟩
end
end
theorem MN{w:Wr}{l r:List aT}{x:aT}{k a:Nat}(h:w.code=l ++x::r)(hk:k=l.length):(w.patch k a).code=l ++⟨x.op,(a:Int),x.n⟩::r:=by
 subst hk;unfold Wr.patch;dsimp only;rw[h];have e:(l ++x::r).getD l.length default=x:=by rw[Jd,rD (bS _)];simp
 rw[e];simp
theorem jY.le{C:List (List (aH×Nat))}{H K:List Bool}(h:jY C H)(hl:Le H K):jY C K:=fun b hb p hp=>hl.2 _ (h b hb p hp)
theorem FU{H:List Bool}{k:Nat}:Le H (H.set k true):=⟨aW,fun j hj=>by
 rw[FB]
 split
 ·rfl
 ·exact hj⟩
structure u9(a U:Us):Prop where
 calls:∀q∈a.calls,q∈U.calls
 iP:∀q∈a.iP,q∈U.iP
 gW:∀q∈a.gW,q∈U.gW
theorem u9.left{a b U:Us}(h:u9 (a.add b) U):u9 a U:=⟨fun q hq=>h.calls q (kY _ hq),fun q hq=>h.iP q (kY _ hq),fun q hq=>h.gW q (kY _ hq)⟩
theorem u9.right{a b U:Us}(h:u9 (a.add b) U):u9 b U:=⟨fun q hq=>h.calls q (mQ _ hq),fun q hq=>h.iP q (mQ _ hq),fun q hq=>h.gW q (mQ _ hq)⟩
def rG(M:aL)(t:Int):Prop:=plain t=true∨handle M t=true
theorem TG{P:List Df}{M:aL}(hM:BX P M){t:Ty}(h1:gA P t=true)(h2:Kd t):rG M (bO P t):=by
 by_cases hp:cV t=true
 ·left
  have hp3:t.kind≠3:=by unfold cV at hp;simpa using hp
  rw[wG hp];unfold plain;simp only[xC,JV];have:=h2.1;have:=h2.2;omega
 ·right
  have hp:cV t=false:=by simpa using hp
  obtain⟨e,he⟩:=x9 h1 hp;obtain⟨f1,f2⟩:=lD he;obtain⟨g1,g2⟩:=hM.aJ _ _ f1 aA;unfold handle;rw[DQ hp,show 10+(dE P t.gen:Int)-10=(dE P t.gen:Int) by omega,FK g2 (by rw[g1];exact f2),Bool.and_true,JV];omega
theorem OL{H K:List Bool}(h:Le H K):Wk ([],H) ([],K):=⟨rfl,h⟩
theorem aHg{P:List Df}{D:Df}{B B':Scope}(hH:∀d∈P,gR P d=true)(hD:D∈P)(hB:gV P B)(hK:tF P)(hBK:∀b∈B,∀p∈b,Kd p.2){x:St}(h:lV P D B x=some B'):∀b∈B',∀p∈b,Kd p.2:=by
 rcases N5 h with rfl|⟨s,y,t,c,r,ht,rfl,rfl⟩
 ·exact hBK
 ·intro b hb p hp;rcases cY.1 hb with rfl|hb
  ·rcases dF.1 hp with hp|hp
   ·exact hBK _ gF p hp
   ·rw[dY.1 hp];exact HB hH hD hB hK hBK ht
  ·exact hBK b (gZ _ hb) p hp
theorem DJ{o:Option Ty}{t:Ty}{u:Unit}(h:same o t=some u):o=some (bare t):=by
 unfold same at h;obtain⟨v,hv,h⟩:=bF.1 h
 split at h
 ·next e=>rw[hv,e]
 ·cases h
section
variable{P:List Df}{D:Df}{tk:Int}{M:aL}{u:bM}{U:Us}{X:Int→Shape→Prop}(G:wX P D tk)(hM:BX P M)(hU:EE P D tk u)(hK:tF P)
include G hM hU hK
mutual
theorem aFn{B:Scope}(hB:gV P B)(hBK:∀b∈B,∀p∈b,Kd p.2):∀(x:St) (w:Wr) (B':Scope) (d c c':Nat) (H:List Bool),cX P w.locals B w.blocks→jT d x c=some c'→lV P D B x=some B'→jY w.blocks H→(∃r,u.locals=(kL P tk x w).locals ++r)→H.length=u.locals.length→u9 (rA x) U→(∀t∈w.locals,rG M t)→
  ∃cd K,(kL P tk x w).code=w.code ++cd∧cE M u (QI P M u U) X w.code.length cd ([],H) ([],K)∧Le H K∧jY (kL P tk x w).blocks K∧∀t∈(kL P tk x w).locals,rG M t
 | .mk k s x b e,w,B',d,c,c',H,hc,h,ht,hV,hr,hl,hus,hL=>by
  rw[rA]at hus;obtain⟨r,hr⟩:=hr;obtain⟨x1,x2, -⟩:=wR P tk x w;have ht0:=ht;rw[jT]at h;obtain⟨c1, -,h⟩:=bF.1 h
  split at h
  rotate_left
  ·cases h
  next hh=>
  have hk9:1≤k∧k≤9:=by
   unfold sP at hh;simp only[JX,JV]at hh;exact⟨hh.1.1,hh.1.2⟩
  rw[lV]at ht;rw[HR]at hr⊢
  by_cases k6:k=6
  ·rw[if_neg aA,if_neg aA,if_pos k6]
   (repeat rw[if_neg aA]at ht);rw[if_pos k6]at ht
   split at ht
   ·cases ht
   next hD=>exact⟨[⟨25,0,0⟩],H,rfl,cE.stop (.plain aK aK) (WY 0 0 (by rw[hU.kind];exact hD)) (.inr rfl),Le.refl _,hV,hL⟩
  rw[if_neg k6]at h;obtain⟨c2,h2,h⟩:=bF.1 h;obtain⟨c3,h3,h⟩:=bF.1 h;have hux:=hus.left.right;rw[if_neg k6]at hux;have ex:∀(t:Ty) (r:List Int),b9 P D B x=some t→u.locals=w.locals ++r→∃cd,(bD P tk x w).1.code=w.code ++cd∧cE M u (QI P M u U) X w.code.length cd ([],H) ([bO P t],H):=fun t r h1 h2'=>
   WS G hM hU hK hB hBK x w (d+1) _ _ t [] hc h2 h1 hV h2' (by simp only[kZ];omega) hux.calls hux.gW
  by_cases k1:k=1
  ·rw[if_neg aA,if_neg aA,if_neg k6]at hr⊢;obtain⟨t,cb,rb,ht',hno,e1,e2⟩:=(DS ht0).1 k1;have hty2:=DX G hB x w _ _ _ t hc h2 ht';unfold nP at hr⊢;rw[if_pos k1]at hr⊢;have hr:u.locals=(w.locals ++[bO P t]) ++r:=by rw[hr,←hty2];show((bD P tk x w).1.locals ++_) ++r=_;rw[x1]
   obtain⟨cd,a1,a2⟩:=ex t ([bO P t] ++r) ht' (by rw[hr,Jt]);have hat:u.locals.getD w.locals.length 0=bO P t:=by
    rw[hr,Jt];exact Ver.rK (i:=0)
   have hs:=WZ (M:=M) (u:=u) (S:=[]) (H:=H) w.locals.length 0;rw[hat]at hs;refine⟨cd ++[⟨4,(w.locals.length:Int),0⟩],H.set w.locals.length true,?_,a2.append (cE.op (.loc (.inr rfl) (by rw[hr];simp only[Jl,gE];omega)) hs (show(4:Int)≠21 by decide) (show(4:Int)≠22 by decide)),FU,?_,fun t' ht2=>?_⟩
   ·show(bD P tk x w).1.code ++[⟨4,((bD P tk x w).1.locals.length:Int),0⟩]=_;rw[a1,x1,Jt]
   ·show jY ((bD P tk x w).1.gK s (bD P tk x w).2).blocks _;unfold Wr.gK;dsimp only;rw[x1,x2];have hV':=hV.le (FU (H:=H) (k:=w.locals.length))
    cases hbl:w.blocks with
    |nil=>intro b hb;cases hb
    |cons q C=>
     rw[hbl]at hV';intro b hb p hp;rcases cY.1 hb with rfl|hb
     ·rcases dF.1 hp with hp|hp
      ·exact hV' _ (.head _) p hp
      ·rw[dY.1 hp,FB,if_pos ⟨rfl,by rw[hl,hr];simp only[Jl,gE];omega⟩]
     ·exact hV' b (.tail _ hb) p hp
   ·have ht2:t'∈(bD P tk x w).1.locals ++[(bD P tk x w).2]:=ht2;rw[x1,hty2]at ht2;rcases dF.1 ht2 with h|h
    ·exact hL _ h
    ·rw[dY.1 h];exact TG hM (yP G.gS G.mem hB x t ht') (HB G.gS G.mem hB hK hBK ht')
  have hLx:∀t∈(bD P tk x w).1.locals,rG M t:=by rw[x1];exact hL
  have hB':=(DS ht0).2 k1;rw[if_neg k1]at ht
  by_cases k2:k=2
  ·rw[if_neg aA,if_neg aA,if_neg k6]at hr⊢;rw[if_pos k2]at ht;obtain⟨t,hlk,ht⟩:=bF.1 ht;obtain⟨_,hsm, -⟩:=cQ.1 ht;unfold nP at hr⊢;rw[if_neg k1,if_pos k2]at hr⊢;have hr:u.locals=w.locals ++r:=by rw[hr];show(bD P tk x w).1.locals ++r=_;rw[x1]
   obtain⟨cd,a1,a2⟩:=ex _ r (DJ hsm) hr;obtain⟨q,q1,q2,q3⟩:=hc.look hlk;have hq:(bD P tk x w).1.look s=q:=by unfold Wr.look;rw[x2,q1];rfl
   have hs:=WZ (M:=M) (u:=u) (S:=[]) (H:=H) q 0;rw[hr,SN q2,q3]at hs;rw[m5]at a2;refine⟨cd ++[⟨4,(q:Int),0⟩],H.set q true,?_,a2.append (cE.op (.loc (.inr rfl) (by rw[hr,Jl];omega)) hs (show(4:Int)≠21 by decide) (show(4:Int)≠22 by decide)),FU,?_,hLx⟩
   ·show(bD P tk x w).1.code ++[⟨4,((bD P tk x w).1.look s:Int),0⟩]=_;rw[a1,hq,Jt]
   ·show jY (bD P tk x w).1.blocks _;rw[x2];exact hV.le FU
  rw[if_neg k2]at ht
  by_cases k34:k=3∨k=4
  ·rw[if_pos k34]at ht;rw[if_pos k34]at h3;obtain⟨_,hsm,ht⟩:=bF.1 ht;obtain⟨B1,hb1,ht⟩:=bF.1 ht
   split at h3
   ·cases h3
   obtain⟨⟨rb,l1⟩,l2⟩:=uU (P:=P) (tk:=tk) b ((bD P tk x w).1.put 22 0 0).open_;have l1:(bZ P tk b ((bD P tk x w).1.put 22 0 0).open_).locals=w.locals ++rb:=by rw[l1];show(bD P tk x w).1.locals ++rb=_;rw[x1]
   have l2:(bZ P tk b ((bD P tk x w).1.put 22 0 0).open_).blocks.tail=w.blocks:=l2.trans x2;have hop:gV P ([]::B):=sR hB;have hopK:∀b∈([]:List (aH×Ty))::B,∀p∈b,Kd p.2:=fun b hb p hp=>by
    rcases cY.1 hb with rfl|hb
    ·cases hp
    ·exact hBK b hb p hp
   have hopV:∀{C:List (List (aH×Nat))},jY C H→jY ([]::C) H:=fun hv b hb p hp=>by
    rcases cY.1 hb with rfl|hb
    ·cases hp
    ·exact hv b hb p hp
   have body:(∃r,u.locals=(bZ P tk b ((bD P tk x w).1.put 22 0 0).open_).locals ++r)→∃cd K,(bZ P tk b ((bD P tk x w).1.put 22 0 0).open_).code=((bD P tk x w).1.put 22 0 0).code ++cd∧cE M u (QI P M u U) X ((bD P tk x w).1.put 22 0 0).code.length cd ([],H) ([],K)∧Le H K∧jY (bZ P tk b ((bD P tk x w).1.put 22 0 0).open_).blocks K∧∀t∈(bZ P tk b ((bD P tk x w).1.put 22 0 0).open_).locals,rG M t:=fun hu=>
    GX hop hopK b ((bD P tk x w).1.put 22 0 0).open_ B1 _ _ _ H ⟨trivial,by show cX P (bD P tk x w).1.locals B (bD P tk x w).1.blocks;rw[x1,x2];exact hc⟩ h3 hb1 (hopV (by show jY (bD P tk x w).1.blocks H;rw[x2];exact hV)) hu hl (by have:=hus.right.left;rwa [if_pos k34]at this) hLx
   by_cases k3:k=3
   ·rw[if_pos k3]at hr⊢h;rw[if_neg aA]at ht;obtain⟨B2,hb2, -⟩:=cQ.1 ht
    split at h
    ·cases h
    dsimp only at hr⊢;generalize hv:((bZ P tk b ((bD P tk x w).1.put 22 0 0).open_).close).put 21 0 0=v at hr⊢;have v1:v.locals=w.locals ++rb:=by rw[←hv];exact l1
    have v2:v.blocks=w.blocks:=by rw[←hv];exact l2
    obtain⟨⟨re,e1⟩,e2⟩:=uU (P:=P) (tk:=tk) e (v.patch ((bD P tk x w).1.code.length) v.code.length).open_;have hr:u.locals=(bZ P tk e (v.patch ((bD P tk x w).1.code.length) v.code.length).open_).locals ++r:=hr;have hrv:u.locals=v.locals ++(re ++r):=by rw[hr,e1,Jt];rfl
    obtain⟨ca,a1,a2⟩:=ex _ (rb ++(re ++r)) (DJ hsm) (by rw[hrv,v1,Jt]);obtain⟨cb,K,b1,b2,b3,b4,b5⟩:=body ⟨re ++r,by rw[hrv,v1,l1]⟩;obtain⟨ce,K2,g1,g2,g3,g4,g5⟩:=GX hop hopK e (v.patch ((bD P tk x w).1.code.length) v.code.length).open_ B2 _ _ _ H ⟨trivial,by show cX P v.locals B v.blocks;rw[v1,v2];exact hc.mono rb⟩ h hb2 (hopV (by show jY v.blocks H;rw[v2];exact hV)) ⟨r,hr⟩ hl (by have:=hus.right.right;rwa [if_pos k3]at this) (by show∀t∈v.locals,rG M t;rw[v1,←l1];exact b5)
    --the code of it all
    have vc:v.code=(w.code ++ca) ++⟨22,0,0⟩::(cb ++[⟨21,0,0⟩]):=by
     rw[←hv];show(bZ P tk b _).code ++[⟨21,0,0⟩]=_;rw[b1];show((bD P tk x w).1.code ++[⟨22,0,0⟩]) ++cb ++[⟨21,0,0⟩]=_;rw[a1];simp[Jt]
    have al:(bD P tk x w).1.code.length=(w.code ++ca).length:=by rw[a1]
    have pc:=MN (a:=v.code.length) vc al;have gc:(bZ P tk e (v.patch ((bD P tk x w).1.code.length) v.code.length).open_).code=(w.code ++(ca ++⟨22,(v.code.length:Int),0⟩::cb)) ++⟨21,0,0⟩::ce:=by
     rw[g1];show(v.patch _ _).code ++ce=_;rw[pc];simp[Jt]
    obtain⟨L2,hL2⟩:∃L,L=(bZ P tk e (v.patch ((bD P tk x w).1.code.length) v.code.length).open_).code.length:=⟨_,rfl⟩;have vl:v.code.length-1=(w.code ++(ca ++⟨22,(v.code.length:Int),0⟩::cb)).length:=by
     have:=congrArg List.length vc;simp only[Jl,JW,kZ]at this⊢;omega
    have fc:=MN (w:=(bZ P tk e (v.patch ((bD P tk x w).1.code.length) v.code.length).open_).close) (a:=L2) gc vl;have hlv:v.code.length=w.code.length+(ca ++aT.mk 22 (v.code.length:Int) 0::(cb ++[aT.mk 21 (L2:Int) 0])).length:=by
     have:=congrArg List.length vc;simp only[Jl,JW,kZ]at this⊢;omega
    have hlL:L2=w.code.length+((ca ++aT.mk 22 (v.code.length:Int) 0::(cb ++[aT.mk 21 (L2:Int) 0])) ++ce).length:=by
     have:=congrArg List.length gc;rw[hL2,this];simp only[Jl,JW,kZ];omega
    refine⟨(ca ++⟨22,(v.code.length:Int),0⟩::(cb ++[⟨21,(L2:Int),0⟩])) ++ce,H,?_,?_,Le.refl _,?_,g5⟩
    ·show((bZ P tk e _).close.patch (v.code.length-1) (bZ P tk e _).close.code.length).code=_;rw[show(bZ P tk e (v.patch ((bD P tk x w).1.code.length) v.code.length).open_).close.code.length=L2 from hL2.symm,fc];simp[Jt]
    ·refine cE.atEnd ?_;refine cE.append (t:=([],H)) ?_ ?_
     ·rw[←hlL];refine cE.atEnd ?_;rw[←hlv];refine(a2.mono fun _ _ h=> .inl (.inl h)).append ?_;rw[show(aT.mk 22 (v.code.length:Int) 0::(cb ++[aT.mk 21 (L2:Int) 0]):List aT)=[aT.mk 22 (v.code.length:Int) 0] ++(cb ++[aT.mk 21 (L2:Int) 0])from rfl];refine cE.append (t:=([],H)) ?_ (cE.append (t:=([],H)) ?_ ?_)
      ·exact cE.RI (S:=[]) (.jmp (.inr rfl)) (.inr ⟨rfl,rfl⟩)
      ·have:=(b2.end_ (t':=([],H)) (OL b3)).mono (Y:=fun q x=>(X q x∨q=(L2:Int)∧x=([],H))∨q=(v.code.length:Int)∧x=([],H)) fun _ _ h=> .inl (.inl h);rw[show((bD P tk x w).1.put 22 0 0).code.length=w.code.length+ca.length+1 by show((bD P tk x w).1.code ++[_]).length=_;rw[a1];simp[uZ]]at this;exact this
      ·exact cE.jump (.jmp (.inl rfl)) (.inl (.inr ⟨rfl,rfl⟩))
     ·rw[←hlL,←hlv];have:=(g2.end_ (t':=([],H)) (OL g3)).mono (Y:=fun q x=>X q x∨q=(L2:Int)∧x=([],H)) fun _ _ h=> .inl h;rw[show(v.patch ((bD P tk x w).1.code.length) v.code.length).open_.code.length=v.code.length by show(v.patch _ _).code.length=_;simp[Wr.patch]]at this;exact this
    ·show jY (bZ P tk e _).blocks.tail H;rw[e2];show jY v.blocks H;rw[v2];exact hV
   have k4:k=4:=aA;rw[if_neg k3,if_pos k4]at hr⊢;dsimp only at hr⊢;have hr:u.locals=(bZ P tk b ((bD P tk x w).1.put 22 0 0).open_).locals ++r:=hr;obtain⟨ca,a1,a2⟩:=ex _ (rb ++r) (DJ hsm) (by rw[hr,l1,Jt]);obtain⟨cb,K,b1,b2,b3,b4,b5⟩:=body ⟨r,hr⟩;generalize hv:((bZ P tk b ((bD P tk x w).1.put 22 0 0).open_).close).put 21 w.code.length 0=v;have vc:v.code=(w.code ++ca) ++⟨22,0,0⟩::(cb ++[⟨21,(w.code.length:Int),0⟩]):=by
    rw[←hv];show(bZ P tk b _).code ++[⟨21,(w.code.length:Int),0⟩]=_;rw[b1];show((bD P tk x w).1.code ++[⟨22,0,0⟩]) ++cb ++[⟨21,(w.code.length:Int),0⟩]=_;rw[a1];simp[Jt]
   have al:(bD P tk x w).1.code.length=(w.code ++ca).length:=by rw[a1]
   have pc:=MN (a:=v.code.length) vc al;have hlv:v.code.length=w.code.length+(ca ++aT.mk 22 (v.code.length:Int) 0::(cb ++[aT.mk 21 (w.code.length:Int) 0])).length:=by
    have:=congrArg List.length vc;simp only[Jl,JW,kZ]at this⊢;omega
   refine⟨ca ++⟨22,(v.code.length:Int),0⟩::(cb ++[⟨21,(w.code.length:Int),0⟩]),H,?_,?_,Le.refl _,?_,by show∀t∈v.locals,rG M t;rw[←hv];exact b5⟩
   ·rw[pc];simp[Jt]
   ·refine cE.aAB (cE.atEnd ?_);rw[←hlv];refine(a2.mono fun _ _ h=> .inl (.inl h)).append ?_;rw[show(aT.mk 22 (v.code.length:Int) 0::(cb ++[aT.mk 21 (w.code.length:Int) 0]):List aT)=[aT.mk 22 (v.code.length:Int) 0] ++(cb ++[aT.mk 21 (w.code.length:Int) 0])from rfl];refine cE.append (t:=([],H)) ?_ (cE.append (t:=([],H)) ?_ ?_)
    ·exact cE.RI (S:=[]) (.jmp (.inr rfl)) (.inr ⟨rfl,rfl⟩)
    ·have:=(b2.end_ (t':=([],H)) (OL b3)).mono (Y:=fun q x=>(X q x∨q=(w.code.length:Int)∧x=([],H))∨q=(v.code.length:Int)∧x=([],H)) fun _ _ h=> .inl (.inl h);rw[show((bD P tk x w).1.put 22 0 0).code.length=w.code.length+ca.length+1 by show((bD P tk x w).1.code ++[_]).length=_;rw[a1];simp[uZ]]at this;exact this
    ·exact cE.jump (.jmp (.inl rfl)) (.inl (.inr ⟨rfl,rfl⟩))
   ·show jY v.blocks H;rw[←hv];show jY (bZ P tk b _).blocks.tail H;rw[l2];exact hV
  rw[if_neg k34]at ht;rw[if_neg aA,if_neg aA,if_neg k6]at hr⊢;have after:∀(t:Ty) (i:aT),b9 P D B x=some t→nP P k s (bD P tk x w)=(bD P tk x w).1.put i.op i.a i.n→(∀a,cE M u (QI P M u U) X a [i] ([bO P t],H) ([],H))→
    ∃cd K,(nP P k s (bD P tk x w)).code=w.code ++cd∧cE M u (QI P M u U) X w.code.length cd ([],H) ([],K)∧Le H K∧jY (nP P k s (bD P tk x w)).blocks K∧∀t∈(nP P k s (bD P tk x w)).locals,rG M t:=fun t i h1 h2' h3'=>by
   rw[h2']at hr⊢;obtain⟨cd,a1,a2⟩:=ex t r h1 (by rw[hr];show(bD P tk x w).1.locals ++r=_;rw[x1]);exact⟨cd ++[i],H,by rw[VV,a1,Jt],a2.append (h3' _),Le.refl _,by show jY (bD P tk x w).1.blocks H;rw[x2];exact hV,hLx⟩
  by_cases k5:k=5
  ·rw[if_pos k5]at ht
   split at ht
   ·next hD=>
    obtain⟨_,hsm, -⟩:=cQ.1 ht;refine after _ ⟨24,0,0⟩ (DJ hsm) (by unfold nP;rw[if_neg k1,if_neg k2,if_pos k5]) (fun a=>?_);rw[m5,←hU.result aA];exact cE.stop (.plain aK aK) (WX 0 0 (hU.kind.trans hD)) (.inl rfl)
   ·cases ht
  rw[if_neg k5,if_neg k6]at ht
  by_cases k7:k=7
  ·rw[if_pos k7]at ht;obtain⟨e',he,ht⟩:=bF.1 ht;obtain⟨_,hsm, -⟩:=cQ.1 ht;obtain⟨f1,f2⟩:=lD he;refine after _ ⟨26,(iC P s:Int),0⟩ (DJ hsm) (by unfold nP;rw[if_neg k1,if_neg k2,if_neg k5,if_pos k7]) (fun a=>?_);have hs:=aFp (M:=M) (u:=u) (S:=[]) (H:=H) (iC P s) 0;rw[hM.boxes _ _ f1 f2]at hs;rw[m5];exact cE.op (.aGG (hM.eU _ _ f1 f2) (hus.left.left.iP s (by rw[if_pos k7];exact .head _)) ⟨e',f1,f2⟩) hs (show(26:Int)≠21 by decide) (show(26:Int)≠22 by decide)
  rw[if_neg k7]at ht
  by_cases k8:k=8
  ·rw[if_pos k8]at ht;obtain⟨t,hty,ht⟩:=bF.1 ht
   split at ht
   ·next hp=>
    refine after _ ⟨28,0,0⟩ hty (by unfold nP;rw[if_neg k1,if_neg k2,if_neg k5,if_neg k7,if_pos k8]) (fun a=>?_);obtain⟨q1,q2⟩:=HB G.gS G.mem hB hK hBK hty;have hp3:t.kind≠3:=by unfold cV at hp;simpa using hp
    have hs:=aFr (M:=M) (u:=u) (S:=[]) (H:=H) 0 0 (bO P t) (by
     rw[wG hp];unfold Ver.plain;simp only[xC,JV];omega)
    exact cE.op (.plain aK aK) hs (show(28:Int)≠21 by decide) (show(28:Int)≠22 by decide)
   ·cases ht
  rw[if_neg k8]at ht;have k9:k=9:=aA;obtain⟨t,hty, -⟩:=cQ.1 ht;refine after _ ⟨5,0,0⟩ hty (by unfold nP;rw[if_neg k1,if_neg k2,if_neg k5,if_neg k7,if_neg k8,if_pos k9]) (fun a=>?_);exact cE.op (.plain aK aK) (aFx (S:=[]) 0 0 _) aK aK
theorem GX{B:Scope}(hB:gV P B)(hBK:∀b∈B,∀p∈b,Kd p.2):∀(l:List St) (w:Wr) (B':Scope) (d c c':Nat) (H:List Bool),cX P w.locals B w.blocks→eH d l c=some c'→fC P D B l=some B'→jY w.blocks H→(∃r,u.locals=(bZ P tk l w).locals ++r)→H.length=u.locals.length→u9 (cD l) U→(∀t∈w.locals,rG M t)→
  ∃cd K,(bZ P tk l w).code=w.code ++cd∧cE M u (QI P M u U) X w.code.length cd ([],H) ([],K)∧Le H K∧jY (bZ P tk l w).blocks K∧∀t∈(bZ P tk l w).locals,rG M t
 |[],w,B',d,c,c',H,hc,h,ht,hV,hr,hl,hus,hL=>⟨[],H,by rw[bZ,eS],cE.nil (Wk.refl _),Le.refl _,by rw[bZ];exact hV,by rw[bZ];exact hL⟩
 |x::l,w,B',d,c,c',H,hc,h,ht,hV,hr,hl,hus,hL=>by
  rw[cD]at hus;obtain⟨r,hr⟩:=hr;rw[eH]at h;obtain⟨c1,h1,h2⟩:=bF.1 h;rw[fC]at ht;obtain⟨B1,t1,t2⟩:=bF.1 ht;rw[bZ]at hr⊢;obtain⟨⟨r2,e1⟩, -⟩:=uU (P:=P) (tk:=tk) l (kL P tk x w);obtain⟨ca,K,a1,a2,a3,a4,a5⟩:=aFn hB hBK x w B1 d _ _ H hc h1 t1 hV ⟨r2 ++r,by rw[hr,e1,Jt]⟩ hl hus.left hL;have hc1:=(HS G x w B B1 _ _ _ hB hc h1 t1).1;obtain⟨cb,K2,b1,b2,b3,b4,b5⟩:=GX (DR G.gS G.mem hB t1) (aHg G.gS G.mem hB hK hBK t1) l (kL P tk x w) B' d _ _ K hc1 h2 t2 a4 ⟨r,hr⟩ (a3.1.symm.trans hl) hus.right a5;refine⟨ca ++cb,K2,by rw[b1,a1,Jt],?_,a3.trans b3,b4,b5⟩;rw[a1,Jl]at b2;exact a2.append b2
end
end
end Fr
end Go.Proofs.YtofckcabpchcmaaGreatDoor
