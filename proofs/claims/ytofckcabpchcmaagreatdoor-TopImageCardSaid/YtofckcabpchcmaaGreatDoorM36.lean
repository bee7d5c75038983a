/- Package sema, walked: statements. -/
import Derived.Test.YtofckcabpchcmaaGreatDoorM35
set_option linter.unusedVariables false
set_option linter.unusedSimpArgs false
set_option linter.unusedSectionVars false
set_option maxRecDepth 100000
namespace Go.Proofs.YtofckcabpchcmaaGreatDoor
section
open Go
theorem qB.aH3{σ:Type}{post:σ→Prop}{val:σ→Value}{mem:σ→List Chunk}{P:Program}{f:FuncId}{args:Array Value}{R pre:List Chunk}(h:qB (τ:=Empty) post val mem (fun _=>True) (fun _=> .nilIface) (fun _=>[]) P f args R pre):Fn P f args R pre post val mem:=fun w hm=>(h w hm).mono fun e w' h=>by
 rcases h with h|⟨y,_⟩
 ·exact h
 ·exact y.elim
theorem H5{α:Type}{iα:Inhabited α}{f:α→List Value}{ef:bH f}{ao:Option Addr}{n c:Nat}{e:TypeId}{l l':List α}(h:l.flatMap f=l'.flatMap f)(hl:l.length=l'.length):arr ao n c e f l=arr ao n c e f l':=by
 unfold arr;simp only[h,hl]
end
namespace Vw
open Go.RowKit Img
section
attribute [local irreducible] aE aG End aB Still aN aU RunT Fn aS
abbrev ZB:=Option Addr×Nat×List Sc
abbrev SE.wi(s:SE)(z:ZB):SE:={s with o:=z.1,c:=z.2.1,bs:=z.2.2}
theorem SE.Kn.wi{cs:List Chunk}{s:SE}(h:SE.Kn cs s)(z:ZB)(hl:z.2.2.length≤1000000000)(ht:Fr.gV s.P (jA z.2.2)):SE.Kn cs (s.wi z):=⟨⟨h.kQ,h.di,h.lt,h.ns,hl⟩,h.gS,ht⟩
abbrev HX(cs:List Chunk)(x:aM):Prop:=∀(s:SE) (b o:Nat),SE.Kn cs s→sH cs b o x→x.fO s.bs.length→0<s.bs.length→Fn Tryz.prog 189 #[ptr s.q, .pointer (some ⟨b,o,none⟩)] [bX cs,cF] s.m (σ:=ZB×Int)
 (fun z=>z.1.2.2.length=s.bs.length∧((z.2=0∧Fr.lV s.P s.D s.B x.st=some (jA z.1.2.2))∨(z.2≠0∧Fr.lV s.P s.D s.B x.st=none))) (fun z=> .int .i64 z.2) (fun z=>(s.wi z.1).m)
theorem WR(l:List Sc)(x:Sc):jA (l ++[x])=x.l::jA l:=by unfold jA;simp
theorem aFm{l:List Sc}:jA (l.take (l.length-1))=(jA l).tail:=by
 rcases List.eq_nil_or_concat l with rfl|⟨r,x,rfl⟩
 ·rfl
 ·rw[List.concat_eq_append,WR];simp
theorem aFd(s:SE)(xb:Nat)(h0:0<s.bs.length)(h1:s.bs.length≤1000000000):tB Tryz.prog 188 #[ptr xb] [] (aF xb [ptr s.q] 312::s.m) (σ:=ZB) (fun z=>z.2.2=s.bs.take (s.bs.length-1)) (fun z=>aF xb [ptr s.q] 312::(s.wi z).m):=by
 refine tB.enter (args:=[ptr xb]) Tryz.func188 rfl _ Tryz.ntmps188 rfl aW (fun w S=>?_);refine Jn ?_;have hi:((s.bs.length:Int)-1).toNat=s.bs.length-1:=aA;refine b8 14 [aF xb [ptr s.q] 312,aF s.q [ptr s.p,fD s.x s.di, .slice s.o s.bs.length s.c] 316] 15 ?_;refine bR [0,1,2,3,4,5,6,7,8,9,10] ?_;(refine JT 11 ?_;(refine Ja ?_;intro ao cap);refine JG ?_);refine bR [12,13] ?_;refine gWl [14] ?_;refine b6 ?_;refine a8 ?_;obtain⟨t,ht⟩:∃t,t=s.bs.take (s.bs.length-1):=⟨_,rfl⟩;have hl:s.bs.length-1=t.length:=by rw[ht,jM];omega
 obtain⟨x,hx⟩:∃x,s.bs=t ++[x]:=⟨s.bs.getLast (List.ne_nil_of_length_pos h0),by rw[ht,←List.dropLast_eq_take,List.dropLast_concat_getLast]⟩;rw[hi,←ht,hl];apply End.imp (fun w hm=>hm.pH (ds:=[kW x]) (es:=t.map kW) tk (by rw[hx,Jq];exact pB));exact End.dL (ao,cap,t) (hp:=rfl)
theorem aHh{P:List Fr.Df}{D:Fr.Df}{B:Fr.Scope}{l:List aM}{k:Nat}(h:k<l.length):Fr.fC P D B (aM.bV (l.drop k))=(Fr.lV P D B (l.getD k default).st).bind fun B=>Fr.fC P D B (aM.bV (l.drop (k+1))):=by
 rw[oN h,aM.bV,Fr.fC]
abbrev HZ(s:SE)(l:List aM)(z:ZB×Int):Prop:=z.1.2.2.length=s.bs.length∧((z.2=0∧jA z.1.2.2=s.B∧(Fr.fC s.P s.D ([]::s.B) (aM.bV l)).isSome=true)∨(z.2≠0∧Fr.fC s.P s.D ([]::s.B) (aM.bV l)=none))
set_option maxHeartbeats 1000000 in
theorem M4(cs:List Chunk)(l:List aM)(ih:∀y∈l,HX cs y)(s:SE)(a:Option Addr)(ca:Nat)(ok:SE.Kn cs s)(hl:tI cs a ca l)(hS:aM.iK l (s.bs.length+1))(h41:s.bs.length≤41)(hn:l.length≤50):Fn Tryz.prog 180 #[ptr s.q, .slice a l.length ca] [bX cs,cF] s.m (σ:=ZB×Int)
  (HZ s l) (fun z=> .int .i64 z.2) (fun z=>(s.wi z.1).m):=by
 refine qB.aH3 ?_;have ha:=hl.arr;refine PE [ptr s.q, .slice a l.length ca] Tryz.func180 Tryz.ntmps180 fun w S=>?_;refine Jn ?_
 repeat(refine Fm ?_;try intro b)
 obtain⟨xb,rfl⟩:=a7 b;refine b8 10 [aF xb [ptr s.q] 312,aF s.q [ptr s.p,fD s.x s.di, .slice s.o s.bs.length s.c] 316] 11 ?_;refine gP [0,1,2,3,4] ?_;refine RunT.uD 5 (h:=aB.pO (κ:=aH) gC aV fun mb=>And.intro xU ?_);refine Jn ?_;have hfew:=ok.eL;refine iF 6 fun b=>?_;(refine JT 7 ?_;refine aB.jN (a:=(⟨mb,[]⟩:Sc)) (k:=?_);intro ao cap;refine JG ?_;refine Jn ?_);refine gP [8,9] ?_;refine gWl [10] ?_;refine b6 ?_;refine aI ?_;refine PD ?_;rw[show s.bs.length+1=(s.bs ++[(⟨mb,[]⟩:Sc)]).length by simp];refine aE.imp (fun w hm=>hm.nC (cs:=(s.bs ++[(⟨mb,[]⟩:Sc)]).map kW) (ds:=[kW ⟨mb,[]⟩]) (es:=s.bs.map kW) tk (.cons tk .nil) (by rw[Jq];exact pB) (by simp[kW,gU])) ?_;refine aI ?_;have hb0:(s.bs ++[(⟨mb,[]⟩:Sc)]).length=s.bs.length+1:=aW;have hb1:jA (s.bs ++[(⟨mb,[]⟩:Sc)])=[]::s.B:=WR _ _;generalize s.bs ++[(⟨mb,[]⟩:Sc)]=bs0 at hb0 hb1⊢;refine cK (σ:=Nat×ZB) (fun z=>z.1≤l.length∧z.2.2.2.length=s.bs.length+1∧Fr.gV s.P (jA z.2.2.2)∧(jA z.2.2.2).tail=s.B∧Fr.fC s.P s.D ([]::s.B) (aM.bV l)=Fr.fC s.P s.D (jA z.2.2.2) (aM.bV (l.drop z.1))) (fun z=>[(1, .slice a l.length ca),(2,ptr xb),(4, .int .i64 0),(19, .int .i64 l.length),(20, .int .i64 z.1)]) (fun z=>aO w S::bX cs::cF::aF xb [ptr s.q] 312::(s.wi z.2).m) (fun z=>l.length-z.1) (0,ao,cap,bs0) ?_ fun z hz K hK=>?_
 ·exact⟨bQ _,hb0,by rw[hb1];exact Fr.sR ok.eI,by rw[hb1];rfl,by rw[hb1];rfl⟩
 refine Jn ?_;obtain⟨k,z⟩:=z;obtain⟨hk,hz,hB,hT,hR⟩:=hz;dsimp only at hk hz hB hT hR⊢;have hlv:∀(e:Int) {E:Env} {n:Nat} {F:List Chunk} {L:List Chunk} (z:ZB),z.2.2.length=s.bs.length+1→(∀o c,HZ s l ((o,c,z.2.2.take (z.2.2.length-1)),e))→look E 4=some (.int .i64 e)→aR (aO w S::aF xb [ptr s.q] 312::(s.wi z).m) L F→
   End (nD Tryz.prog Tryz.f180 (qI (HZ s l) (fun z:ZB×Int=> .int .i64 z.2) (fun z=>(s.wi z.1).m) (fun _:Empty=>True) (fun _=> .nilIface) (fun _=>[]) w S)) ⟨n,[{target:= .fn (.func 188) #[ptr xb],args:= #[]}]⟩ .ret E L:=by
  intro e E n F L z h1 h2 h3 h4;apply End.imp (fun w hm=>hm.aP h4);refine Jn ?_;refine End.AY (fU.call b7 (aFd (s.wi z) xb (by show 0<z.2.2.length;omega) (by show z.2.2.length≤_;omega)) cA (fun w=> .nil) (fun y hy=>?_));obtain⟨o,c,bs⟩:=y;dsimp only at hy;subst hy;exact fU.one rfl h3 fun w' hm=> .inl ⟨((o,c,_),e),h2 o c,rfl,pM,(hm.aP cA).left⟩
 by_cases hlt:k<l.length
 ·have kn:=ok.wi z aA hB;rw[aHh hlt]at hR;refine aI ?_;refine bU (ih _ (dW hlt) (s.wi z) _ _ kn (hl.mF hlt) (by show aM.fO _ z.2.2.length;rw[hz];exact hS.all _ (dW hlt)) (by show 0<z.2.2.length;omega)) fun r hr=>?_;obtain⟨z2,e⟩:=r;obtain⟨h1,⟨h2,h3⟩|⟨h2,h3⟩⟩:=hr
  ·dsimp only at h1 h2 h3;subst h2;rw[h3,eR]at hR;obtain⟨t1,t2⟩:=Fr.N7 h3;refine aI ?_;exact End.bK hK (k+1,z2) ⟨hlt,h1.trans hz,Fr.DR ok.gS (SE.IY _ ok.di) hB h3,t1.trans hT,hR⟩ (by dsimp only;omega)
  ·have h2':decide (e=0)=false:=decide_eq_false h2;refine aI ?_;exact hlv e z2 (h1.trans hz) (fun o c=>⟨by show(List.take _ _).length=_;rw[jM,h1.trans hz];omega, .inr ⟨h2,by rw[hR,h3];rfl⟩⟩) rfl cA
 ·refine aI ?_;exact hlv 0 z hz (fun o c=>⟨by show(List.take _ _).length=_;rw[jM,hz];omega, .inl ⟨rfl,by show jA (List.take _ _)=_;rw[aFm];exact hT,by rw[hR,iS aA];rfl⟩⟩) rfl cA
end
end Vw
end Go.Proofs.YtofckcabpchcmaaGreatDoor
