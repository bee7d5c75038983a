/- Package sema, walked: statements. -/
import Derived.Test.YtofckcabpchcmaaGreatDoorM21
set_option linter.unusedVariables false
set_option linter.unusedSimpArgs false
set_option linter.unusedSectionVars false
set_option maxRecDepth 100000
namespace Go.Proofs.YtofckcabpchcmaaGreatDoor
section
open Go
theorem pC.aGm{σ:Type}{post:σ→Prop}{val:σ→Value}{mem:σ→List Chunk}{P:Program}{f:FuncId}{args:Array Value}{R pre:List Chunk}(h:pC (τ:=Empty) post val mem (fun _=>True) (fun _=> .nilIface) (fun _=>[]) P f args R pre):Fn P f args R pre post val mem:=fun w hm=>(h w hm).mono fun e w' h=>by
 rcases h with h|⟨y,_⟩
 ·exact h
 ·exact y.elim
theorem HE{α:Type}{iα:Inhabited α}{f:α→List Value}{ef:bF f}{ao:Option Addr}{n c:Nat}{e:TypeId}{l l':List α}(h:l.flatMap f=l'.flatMap f)(hl:l.length=l'.length):arr ao n c e f l=arr ao n c e f l':=by
 unfold arr;simp only[h,hl]
end
namespace Vw
open Go.RowKit Img
section
attribute [local irreducible] aE aB End aA Still aM aP RunT Fn aO
abbrev ZB:=Option Addr×Nat×List Sc
abbrev SE.wi(s:SE)(z:ZB):SE:={s with o:=z.1,c:=z.2.1,bs:=z.2.2}
theorem SE.Kn.wi{cs:List Chunk}{s:SE}(h:SE.Kn cs s)(z:ZB)(hl:z.2.2.length≤1000000000)(ht:Fr.kX s.P (iF z.2.2)):SE.Kn cs (s.wi z):=⟨⟨h.jX,h.di,h.lt,h.ns,hl⟩,h.nS,ht⟩
abbrev G6(cs:List Chunk)(x:aJ):Prop:=∀(s:SE) (b o:Nat),SE.Kn cs s→rK cs b o x→x.fF s.bs.length→0<s.bs.length→Fn Tryz.prog 189 #[ptr s.q, .pointer (some ⟨b,o,none⟩)] [bE cs,bN] s.m (σ:=ZB×Int)
 (fun z=>z.1.2.2.length=s.bs.length∧((z.2=0∧Fr.mK s.P s.D s.B x.st=some (iF z.1.2.2))∨(z.2≠0∧Fr.mK s.P s.D s.B x.st=none))) (fun z=> .int .i64 z.2) (fun z=>(s.wi z.1).m)
theorem VF(l:List Sc)(x:Sc):iF (l ++[x])=x.l::iF l:=by unfold iF;simp
theorem aFQ{l:List Sc}:iF (l.take (l.length-1))=(iF l).tail:=by
 rcases List.eq_nil_or_concat l with rfl|⟨r,x,rfl⟩
 ·rfl
 ·rw[List.concat_eq_append,VF];simp
theorem aFK(s:SE)(xb:Nat)(h0:0<s.bs.length)(h1:s.bs.length≤1000000000):sI Tryz.prog 188 #[ptr xb] [] (aD xb [ptr s.q] 312::s.m) (σ:=ZB) (fun z=>z.2.2=s.bs.take (s.bs.length-1)) (fun z=>aD xb [ptr s.q] 312::(s.wi z).m):=by
 refine sI.enter (args:=[ptr xb]) Tryz.func188 rfl _ Tryz.ntmps188 rfl (by simp) (fun w S=>?_);refine Jn ?_;have hi:((s.bs.length:Int)-1).toNat=s.bs.length-1:=by omega
 apply aB.draw 14 ([aD xb [ptr s.q] 312,aD s.q [ptr s.p,eJ s.x s.di, .slice s.o s.bs.length s.c] 316]) (by kernel_rfl) 15 rfl;refine JR 0 ?_;refine JR 1 ?_;refine JR 2 ?_;refine JR 3 ?_;refine JR 4 ?_;refine JR 5 ?_;refine JR 6 ?_;refine JR 7 ?_;refine JR 8 ?_;refine JR 9 ?_;refine JR 10 ?_;(refine JT 11 ?_;(refine Ja ?_;intro ao cap);refine JG ?_);refine JR 12 ?_;refine JR 13 ?_;(refine JT 14 ?_;(refine Jw ?_);refine JG ?_);(apply RunT.done;kernel_rfl)
 repeat(refine Fy ?_)
 obtain⟨t,ht⟩:∃t,t=s.bs.take (s.bs.length-1):=⟨_,rfl⟩;have hl:s.bs.length-1=t.length:=by rw[ht,lE];omega
 obtain⟨x,hx⟩:∃x,s.bs=t ++[x]:=⟨s.bs.getLast (List.ne_nil_of_length_pos h0),by rw[ht,←List.dropLast_eq_take,List.dropLast_concat_getLast]⟩;rw[hi,←ht,hl];apply End.imp (fun w hm=>hm.nO (ds:=[kC x]) (es:=t.map kC) tk (by rw[hx,Jq];exact pH));exact End.cY (ao,cap,t) (hp:=rfl)
theorem aHA{P:List Fr.Df}{D:Fr.Df}{B:Fr.Scope}{l:List aJ}{k:Nat}(h:k<l.length):Fr.e8 P D B (aJ.bR (l.drop k))=(Fr.mK P D B (l.getD k default).st).bind fun B=>Fr.e8 P D B (aJ.bR (l.drop (k+1))):=by
 rw[nR h,aJ.bR,Fr.e8]
abbrev G8(s:SE)(l:List aJ)(z:ZB×Int):Prop:=z.1.2.2.length=s.bs.length∧((z.2=0∧iF z.1.2.2=s.B∧(Fr.e8 s.P s.D ([]::s.B) (aJ.bR l)).isSome=true)∨(z.2≠0∧Fr.e8 s.P s.D ([]::s.B) (aJ.bR l)=none))
set_option maxHeartbeats 1000000 in
theorem MM(cs:List Chunk)(l:List aJ)(ih:∀y∈l,G6 cs y)(s:SE)(a:Option Addr)(ca:Nat)(ok:SE.Kn cs s)(hl:sR cs a ca l)(hS:aJ.gW l (s.bs.length+1))(h41:s.bs.length≤41)(hn:l.length≤50):Fn Tryz.prog 180 #[ptr s.q, .slice a l.length ca] [bE cs,bN] s.m (σ:=ZB×Int)
  (G8 s l) (fun z=> .int .i64 z.2) (fun z=>(s.wi z.1).m):=by
 refine pC.aGm ?_;have ha:=hl.arr;refine PE [ptr s.q, .slice a l.length ca] Tryz.func180 Tryz.ntmps180 fun w S=>?_;refine Jn ?_
 repeat(refine Fm ?_;try intro b)
 obtain⟨xb,rfl⟩:∃x,x=b:=⟨_,rfl⟩;apply aB.draw 10 ([aD xb [ptr s.q] 312,aD s.q [ptr s.p,eJ s.x s.di, .slice s.o s.bs.length s.c] 316]) (by kernel_rfl) 11 rfl;refine RunT.a7 0 (hQ:=bA) (h:=?_);refine RunT.a7 1 (hQ:=bA) (h:=?_);refine RunT.a7 2 (hQ:=bA) (h:=?_);refine RunT.a7 3 (hQ:=bA) (h:=?_);refine RunT.a7 4 (hQ:=bA) (h:=?_);refine RunT.B5 5 (h:=aA.oV (κ:=aF) fQ (by exact rfl) fun mb=>And.intro uP ?_);refine Jn ?_;have hfew:=ok.dY;(refine JT 6 ?_;(refine Jb ?_;intro b);refine JG ?_);(refine JT 7 ?_;refine aA.jL (a:=(⟨mb,[]⟩:Sc)) (k:=?_);intro ao cap;refine JG ?_;(refine Jn ?_));refine RunT.a7 8 (hQ:=bA) (h:=?_);refine RunT.a7 9 (hQ:=bA) (h:=?_);(refine JT 10 ?_;(refine Jw ?_);refine JG ?_);(apply RunT.done;kernel_rfl)
 repeat(refine Fm ?_)
 refine PD ?_;rw[show s.bs.length+1=(s.bs ++[(⟨mb,[]⟩:Sc)]).length by simp];refine aE.imp (fun w hm=>hm.mA (cs:=(s.bs ++[(⟨mb,[]⟩:Sc)]).map kC) (ds:=[kC ⟨mb,[]⟩]) (es:=s.bs.map kC) tk (.cons tk .nil) (by rw[Jq];exact pH) (by simp[kC,j6])) ?_
 repeat(refine Fm ?_)
 have hb0:(s.bs ++[(⟨mb,[]⟩:Sc)]).length=s.bs.length+1:=by simp
 have hb1:iF (s.bs ++[(⟨mb,[]⟩:Sc)])=[]::s.B:=VF _ _;generalize s.bs ++[(⟨mb,[]⟩:Sc)]=bs0 at hb0 hb1⊢;refine aB.only ((fun z=>aI w S::bE cs::bN::aD xb [ptr s.q] 312::(s.wi z.2).m) (0,ao,cap,bs0)) (aK) ?_;apply aB.loop (σ:=Nat×ZB) (fun z=>z.1≤l.length∧z.2.2.2.length=s.bs.length+1∧Fr.kX s.P (iF z.2.2.2)∧(iF z.2.2.2).tail=s.B∧Fr.e8 s.P s.D ([]::s.B) (aJ.bR l)=Fr.e8 s.P s.D (iF z.2.2.2) (aJ.bR (l.drop z.1))) (fun z=>[(1, .slice a l.length ca),(2,ptr xb),(4, .int .i64 0),(19, .int .i64 (l.length:Int)),(20, .int .i64 (z.1:Int))]) (fun z=>aI w S::bE cs::bN::aD xb [ptr s.q] 312::(s.wi z.2).m) (fun z=>l.length-z.1) (0,ao,cap,bs0)
 rotate_left
 exact sb;exact aK;intro z hz K hK;(refine Jn ?_)
 rotate_left
 ·exact⟨bP _,hb0,by rw[hb1];exact Fr.uW ok.dW,by rw[hb1];rfl,by rw[hb1];rfl⟩
 obtain⟨k,z⟩:=z;obtain⟨hk,hz,hB,hT,hR⟩:=hz;dsimp only at hk hz hB hT hR⊢;have hlv:∀(e:Int) {E:Env} {n:Nat} {F:List Chunk} {L:List Chunk} (z:ZB),z.2.2.length=s.bs.length+1→(∀o c,G8 s l ((o,c,z.2.2.take (z.2.2.length-1)),e))→look E 4=some (.int .i64 e)→aQ (aI w S::aD xb [ptr s.q] 312::(s.wi z).m) L F→
   End (mC Tryz.prog Tryz.f180 (pN (G8 s l) (fun z:ZB×Int=> .int .i64 z.2) (fun z=>(s.wi z.1).m) (fun _:Empty=>True) (fun _=> .nilIface) (fun _=>[]) w S)) ⟨n,[{target:= .fn (.func 188) #[ptr xb],args:= #[]}]⟩ .ret E L:=by
  intro e E n F L z h1 h2 h3 h4;apply End.imp (fun w hm=>hm.aS h4);refine Jn ?_;refine End.zK (fY.call (by kernel_rfl) (aFK (s.wi z) xb (by show 0<z.2.2.length;omega) (by show z.2.2.length≤_;omega)) aK (fun w=> .nil) (fun y hy=>?_));obtain⟨o,c,bs⟩:=y;dsimp only at hy;subst hy;exact fY.one rfl h3 fun w' hm=> .inl ⟨((o,c,_),e),h2 o c,rfl,oQ,(hm.aS aK).left⟩
 by_cases hlt:k<l.length
 ·have kn:=ok.wi z (by omega) hB;rw[aHA hlt]at hR
  repeat(refine Fm ?_)
  refine FQ (ih _ (dQ hlt) (s.wi z) _ _ kn (hl.lF hlt) (by show aJ.fF _ z.2.2.length;rw[hz];exact hS.all _ (dQ hlt)) (by show 0<z.2.2.length;omega)) ?_;intro r hr;refine Jn ?_;obtain⟨z2,e⟩:=r;obtain⟨h1,⟨h2,h3⟩|⟨h2,h3⟩⟩:=hr
  ·dsimp only at h1 h2 h3;subst h2;rw[h3,aU]at hR;obtain⟨t1,t2⟩:=Fr.NN h3
   repeat(refine Fm ?_)
   exact End.bK hK (k+1,z2) ⟨hlt,h1.trans hz,Fr.GH ok.nS (SE.IC _ ok.di) hB h3,t1.trans hT,hR⟩ (by dsimp only;omega)
  ·have h2':decide (e=0)=false:=decide_eq_false h2
   repeat(refine Fm ?_)
   exact hlv e z2 (h1.trans hz) (fun o c=>⟨by show(List.take _ _).length=_;rw[lE,h1.trans hz];omega, .inr ⟨h2,by rw[hR,h3];rfl⟩⟩) rfl aK
 ·repeat(refine Fm ?_)
  exact hlv 0 z hz (fun o c=>⟨by show(List.take _ _).length=_;rw[lE,hz];omega, .inl ⟨rfl,by show iF (List.take _ _)=_;rw[aFQ];exact hT,by rw[hR,lD (by omega)];rfl⟩⟩) rfl aK
end
end Vw
end Go.Proofs.YtofckcabpchcmaaGreatDoor
