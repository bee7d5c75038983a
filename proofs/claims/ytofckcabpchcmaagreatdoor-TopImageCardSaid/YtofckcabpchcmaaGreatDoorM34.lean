/- The form of programs, walked: syn.Wrong. -/
import Derived.Test.YtofckcabpchcmaaGreatDoorM33
set_option linter.unusedVariables false
set_option linter.unusedSimpArgs false
set_option linter.unusedSectionVars false
set_option maxRecDepth 100000
namespace Go.Proofs.YtofckcabpchcmaaGreatDoor
namespace Vw
open Go.RowKit Img
attribute [local irreducible] aE aG End aB Still aN aU RunT Fn aS
section
attribute [local irreducible] Fr.named
structure oH(cs:List Chunk)(o:Option Addr)(c:Nat)(l:List DL):Prop where
 arr:Proofs.YtofckcabpchcmaaGreatDoor.arr o l.length c 145 mV l∈cs
 sub:∀d∈l,∀e∈d.mem,e∈cs
theorem oH.at{cs:List Chunk}{o:Option Addr}{c:Nat}{l:List DL}(h:oH cs o c l){i:Nat}(hi:i<l.length):yU cs (ob o) (oo o+i*sz mV) (l.getD i default):=⟨Has.elem h.arr hi,h.sub _ (dW hi)⟩
theorem ZS(cs:List Chunk)(o:Option Addr)(c:Nat)(l:List DL)(h:oH cs o c l):Fn Tryz.prog 53 #[.slice o l.length c] [bX cs,cF] [] (σ:=Int×Int) (fun x=>(x.1=0∧x.2=0∧Fr.shaped (l.map DL.df)=true)∨(x.1≠0∧Fr.shaped (l.map DL.df)=false)) (fun x=> .agg #[.int .i64 x.1, .int .i64 x.2]) (fun _=>[]):=by
 have ha:=h.arr;have hs:Fr.shaped (l.map DL.df)=(decide (l.length≤30)&&(Fr.lS (l.map DL.df) 0).isSome):=by unfold Fr.shaped;rw[Jf]
 refine JE [.slice o l.length c] Tryz.func53 Tryz.ntmps53 fun w S=>?_;refine Jn ?_
 by_cases h30:30<l.length
 ·repeat(refine Fm ?_;try intro b)
  exact End.fX (5,0) (he:=rfl) (hp:= .inr ⟨show(5:Int)≠0 by decide,by rw[hs,decide_eq_false aA];rfl⟩)
 have h31:decide (l.length≤30)=true:=decide_eq_true aA;rw[h31,xF]at hs
 repeat(refine Fm ?_;try intro b)
 rename_i rb
 refine aG.only ((fun s=>[aO w S,bX cs,cF,aF rb [.int .i64 0, .int .i64 0] 70,aF b [.int .i64 s.2] 217]) (0,0)) (cA) ?_;apply aG.loop (σ:=Nat×Nat) (fun s=>s.1≤l.length∧s.2≤2000∧Fr.lS (l.map DL.df) 0=Fr.lS ((l.drop s.1).map DL.df) s.2) (fun s=>[(0, .slice o l.length c),(2,ptr rb),(3,ptr b),(13, .int .i64 l.length),(14, .int .i64 s.1)]) (fun s=>[aO w S,bX cs,cF,aF rb [.int .i64 0, .int .i64 0] 70,aF b [.int .i64 s.2] 217]) (fun s=>l.length-s.1) (0,0)
 rotate_left
 exact sb;exact cA;intro s hs' K hK;refine Jn ?_
 rotate_left
 ·exact⟨bQ _,bQ _,rfl⟩
 obtain⟨k,c2⟩:=s;obtain⟨hk',hc2,hr⟩:=hs';dsimp only at hk' hc2 hr⊢
 by_cases hlt:k<l.length
 ·have hz:Fr.lS ((l.drop k).map DL.df) c2=(Fr.oS (l.getD k default).df c2).bind (Fr.lS ((l.drop (k+1)).map DL.df)):=by
   rw[oN hlt,fI,Fr.lS]
  refine aI ?_;refine bU (aIH b cs (l.getD k default) _ _ c2 (h.at hlt) hc2) fun e he=>?_;obtain⟨e,c3⟩:=e;rcases he with⟨he,hn,hc3⟩|⟨he,hn⟩
  ·dsimp only at he hn hc3;subst he;refine aI ?_;exact End.bK hK (k+1,c3) ⟨hlt,hc3,by rw[hr,hz,hn];rfl⟩ (by dsimp only;omega)
  ·have he':decide (e=0)=false:=decide_eq_false he;refine aI ?_;exact End.fX (e,(k:Int)) (he:=rfl) (hp:= .inr ⟨he,by rw[hs,hr,hz,hn];rfl⟩)
 ·refine aI ?_;exact End.fX (0,0) (he:=rfl) (hp:= .inl ⟨rfl,rfl,by rw[hs,hr,iS aA];rfl⟩)
end
section
attribute [local irreducible] Fr.named
structure cT where
 o:Option Addr
 c:Nat
 l:List DL
abbrev cT.tL(x:cT):List Chunk:=arr x.o x.l.length x.c 145 mV x.l::x.l.flatMap DL.mem
theorem cT.bE(x:cT):∀c∈x.tL,c.bE=true:=fun c hc=>by
 rcases cY.1 hc with rfl|hc
 ·exact dU
 ·obtain⟨d, -,hd⟩:=qF.1 hc;exact d.uA c hd
abbrev AX(t:aH)(x:cT×Int×Int):Prop:=(x.2.1=0∧Fr.parse t=some (x.1.l.map DL.df)∧Fr.shaped (x.1.l.map DL.df)=true)∨(x.2.1≠0∧∀p,Fr.parse t=some p→Fr.shaped p=false)
abbrev GR(x:cT×Int×Int):Value:= .tuple #[.slice x.1.o x.1.l.length x.1.c, .agg #[.int .i64 x.2.1, .int .i64 x.2.2]]
abbrev AW(x:cT×Int×Int):List Chunk:=[bC x.1.tL]
abbrev Q9(rb fb:Nat):Deferred:={target:= .fn (.func 49) #[ptr rb,ptr fb],args:= #[]}
section
variable{t:aH}{w0:World}{S:Nat→Prop}{n:Nat}{E:Env}{L L' F F2:List Chunk}{v0 a0 a1:Value}{rb fb:Nat}
theorem Mem.LX{w:World}(h:Mem w L):Mem w (bC (cT.mk none 0 []).tL::L):=Mem.pack (cs:=(cT.mk none 0 []).tL) (h.cU 145 mV) (cT.bE _)
theorem Mem.aDR{w:World}{L1 L2:List Chunk}(x:cT)(h:Mem w L)(t1:Take (arr x.o x.l.length x.c 145 mV x.l) L L1)(t2:Take (bC (x.l.flatMap DL.mem)) L1 L2):Mem w (bC x.tL::L2):=by
 have h1:Mem w ([arr x.o x.l.length x.c 145 mV x.l,bC (x.l.flatMap DL.mem)] ++L2):=h.aP (.cons t1 (.cons t2 .nil));have h2:Mem w ([arr x.o x.l.length x.c 145 mV x.l] ++bC (x.l.flatMap DL.mem)::L2):=h1;exact Mem.pack (cs:=x.tL) (by simpa using Mem.BD h2) x.bE
theorem O5(rb fb:Nat)(e:mP)(hp:Fr.parse t=none)(tt:aR [aF rb [v0] 68,aF fb [a0,a1] 70] L F:=by exact cA)(ht:Take (aO w0 S) F F2:=by exact tk)(h2:look E 2=some (ptr rb):=by exact rfl)(h3:look E 3=some (ptr fb):=by exact rfl):
  End (vC Tryz.prog Tryz.f22 2 3 (eJ (AX t) GR AW w0 S)) ⟨n,[Q9 rb fb]⟩ (.panic (n8 (rR e))) E L:=
 End.aEU (fU.recover b7 (aEs rb fb v0 a0 a1 e) rfl tt (fun w=> .nil) (fun _ _=>LJ rfl rfl rfl rfl rfl rfl .head (.tail .head) rfl fun w hm=>⟨(⟨none,0,[]⟩,e.1), .inr ⟨e.2,fun p h=>by rw[hp]at h;cases h⟩,rfl,fun c hc=>by rw[dY.1 hc];exact iB,by
  have h1:=hm.take (.tail (.tail ht));exact Mem.left (L:=[aO w0 S,bC (cT.mk none 0 []).tL]) ((Mem.LX h1).perm (List.Perm.swap _ _ _))⟩)) h2 h3
theorem O4(rb fb:Nat)(x:cT×Int×Int)(hp:AX t x)(hm:Take (aF rb [.slice x.1.o x.1.l.length x.1.c] 68) L F)(hm2:Take (aF fb [.int .i64 x.2.1, .int .i64 x.2.2] 70) L F2)(h:aR (aO w0 S::AW x) L L':=by exact cA)(h2:look E 2=some (ptr rb):=by exact rfl)(h3:look E 3=some (ptr fb):=by exact rfl):
  End (vC Tryz.prog Tryz.f22 2 3 (eJ (AX t) GR AW w0 S)) ⟨n,[Q9 rb fb]⟩ .ret E L:=
 End.M0 (fU.quiet b7 (aEt rb fb) .nil (fun w=> .nil) (fun _ _=>LJ rfl h2 h3 rfl rfl rfl hm hm2 rfl fun w hm=>⟨x,hp,rfl,fun c hc=>by rw[dY.1 hc];exact iB,(hm.aP h).left⟩))
theorem Z1(rb fb:Nat)(x:cT×Int×Int)(hp:AX t x)(hm:Take (aF rb [.slice x.1.o x.1.l.length x.1.c] 68) L F)(hm2:Take (aF fb [.int .i64 x.2.1, .int .i64 x.2.2] 70) L F2)(h:aR (aO w0 S::AW x) L L':=by exact cA)(h2:look E 2=some (ptr rb):=by exact rfl)(h3:look E 3=some (ptr fb):=by exact rfl):
  End (vC Tryz.prog Tryz.f22 2 3 (eJ (AX t) GR AW w0 S)) ⟨n,[]⟩ .ret E L:=
 End.M0 (LJ rfl h2 h3 rfl rfl rfl hm hm2 rfl fun w hm=>⟨x,hp,rfl,fun c hc=>by rw[dY.1 hc];exact iB,(hm.aP h).left⟩)
end
theorem aBG(n:Nat):Fr.defs n []=some ([],[]):=by cases n<;>rfl
theorem aBI{l:List Fr.Tok}(h:0<l.length):Fr.defs 0 l=none:=by
 cases l with
 |nil=>simp at h
 |cons=>rfl
theorem aBH{n:Nat}{l:List Fr.Tok}(h:0<l.length):Fr.defs (n+1) l=(Fr.vH l).bind fun x=>(Fr.defs n x.2).map fun y=>(x.1::y.1,y.2):=by
 cases l with
 |nil=>simp at h
 |cons=>rfl
set_option maxHeartbeats 1000000 in
theorem aFE(t:aH)(hn:t.length≤9223372036854775807):Fn Tryz.prog 22 #[sv t] [cF] [] (σ:=cT×Int×Int) (AX t) GR AW:=by
 refine OW.enter (args:=[sv t]) 2 3 _ Tryz.func22 Tryz.ntmps22 (fun w S=>?_);refine Jn ?_
 repeat(refine Fy ?_;try intro b)
 rename_i rb
 obtain⟨fb,rfl⟩:=a7 b;refine bU (aH5 t hn) fun r hr=>?_;rcases hr with⟨he,htk⟩|⟨he,htk⟩
 rotate_left
 ·have he':decide (r.e=0)=false:=decide_eq_false he;refine a8 ?_;refine b8 2 [aF fb [.int .i64 r.e, .int .i64 r.a] 70] 3 ?_;refine RunT.fT 0 (h:=?_);refine gWl [1,2] ?_;refine b6 ?_;refine a8 ?_;apply End.imp (fun w hm=>Mem.LX hm);exact Z1 rb fb (⟨none,0,[]⟩,r.e,r.a) (.inr ⟨he,fun p h=>by rw[Fr.parse,htk]at h;cases h⟩) tk tk
 refine a8 ?_;refine PD ?_
 repeat(refine Fy ?_;try intro b)
 obtain⟨pb,rfl⟩:=a7 b;apply aG.imp (fun w hm=>(hm.cU 145 mV).gH);refine cK (σ:=cT×PS) (fun z=>z.1.l.length≤30∧z.2.deep=0∧Fr.parse t=(Fr.defs (30-z.1.l.length) z.2.l).map fun q=>z.1.l.map DL.df ++q.1) (fun z=>[(0,sv t),(2,ptr rb),(3,ptr fb),(5,ptr pb)]) (fun z:cT×PS=>aO w S::cF::aF rb [.slice z.1.o z.1.l.length z.1.c] 68::aF fb [.int .i64 r.e, .int .i64 r.a] 70::arr z.1.o z.1.l.length z.1.c 145 mV z.1.l::bC (z.1.l.flatMap DL.mem)::dN pb (t.length:Int) z.2) (fun z=>30-z.1.l.length) (⟨none,0,[]⟩,⟨r.o,r.c,r.l,0⟩) ?_ fun z hz K hK=>?_
 ·exact⟨aW,rfl,by rw[Fr.parse,htk];simp⟩
 refine Jn ?_;obtain⟨x,y⟩:=z;obtain⟨hx,dy,hρ⟩:=hz;dsimp only at hx dy hρ⊢
 by_cases hl:0<y.l.length
 ·by_cases h30:x.l.length=30
  ·rw[h30,aBI hl]at hρ;refine a8 ?_;refine oO (pU y) fun a ha=>?_;refine PQ (oU y (vI a)) ?_ ?_
   ·intro q hq;refine PO ?_;exact O5 rb fb (vI a) hρ
   ·intro z _;exact z.elim
  ·obtain⟨m,hm⟩:∃m,30-x.l.length=m+1:=⟨29-x.l.length,aA⟩;rw[hm,aBH hl]at hρ;refine a8 ?_;refine b8 5 [aF rb [.slice x.o x.l.length x.c] 68] 6 ?_;refine RunT.fT 0 (h:=?_);refine RunT.fT 1 (h:=?_);refine JT 2 ?_;refine aB.pf (aEM y dy) ?_ ?_
   ·intro hq e v;refine PO ?_;exact O5 rb fb e (by rw[hρ,hq];rfl)
   intro g v hi dv lv;rw[hi,eR]at hρ;refine JG ?_;refine Jn ?_;refine iF 3 fun b=>?_;(refine JT 4 ?_;(refine Ja ?_;intro ao cap);refine JG ?_);refine gWl [5] ?_;refine b6 ?_;refine a8 ?_;rw[show x.l.length+1=(x.l ++[g]).length by simp];apply End.imp (fun w hm=>Mem.zJ (cs:=x.l.flatMap DL.mem) (ds:=g.mem) hm tk tk);rw[show x.l.flatMap DL.mem ++g.mem=(x.l ++[g]).flatMap DL.mem by simp];refine End.bK hK (⟨ao,cap,x.l ++[g]⟩,v) ⟨by simp;omega,dv.trans dy,?_⟩ (by simp;omega);rw[hρ,show 30-(x.l ++[g]).length=m by simp;omega];simp[w7]
 ·have hnil:y.l=[]:=qC aA;rw[hnil,aBG,pA,eS]at hρ;refine a8 ?_;refine aE.imp (fun w hm=>Mem.aDR x hm tk tk) ?_;apply aE.op aV;refine aB.bA (spec:=ZS x.tL x.o x.c x.l ⟨gF,fun d hd e he=>gZ _ (qF.2 ⟨d,hd,he⟩)⟩) (r:=fun w=>Reads.bX tk qV) (k:=?_);intro f hf;refine Jn ?_;rcases hf with⟨h1, -,hsh⟩|⟨h1,hsh⟩
  ·repeat(refine Fy ?_;try intro b)
   refine b8 3 [aF rb [.slice x.o x.l.length x.c] 68,aF fb [.int .i64 r.e, .int .i64 r.a] 70] 4 ?_;refine RunT.fT 0 (h:=?_);refine RunT.fT 1 (h:=?_);refine gWl [2,3] ?_;refine b6 ?_;refine a8 ?_;exact O4 rb fb (x,r.e,r.a) (.inl ⟨he,hρ,hsh⟩) tk tk
  ·have h1':decide (f.1=0)=false:=decide_eq_false h1
   repeat(refine Fy ?_;try intro b)
   refine b8 4 [aF b [.int .i64 f.1, .int .i64 f.2] 70] 5 ?_;refine RunT.fT 0 (h:=?_);refine RunT.fT 1 (h:=?_);refine RunT.fT 2 (h:=?_);refine gWl [3,4] ?_;refine b6 ?_;refine a8 ?_;apply End.imp (fun w hm=>Mem.LX hm);exact O4 rb fb (⟨none,0,[]⟩,f.1,0) (.inr ⟨h1,fun p h=>by rw[hρ]at h;cases h;exact hsh⟩) tk tk
end
theorem aDN{s:aH}{l:List aH}(h:∀j,j<l.length→l.getD j default≠s):s∉l:=fun hs=>by
 obtain⟨j,hj,he⟩:=pC hs;exact h j hj (by rw[Jd,Je hj];exact he)
theorem aHJ(ao:Option Addr)(cap:Nat)(l:List aH)(hm:l.length≤1000000000)(s:aH):Fn Tryz.prog 163 #[.slice ao l.length cap,sv s] [rd ao l.length cap gL l] [] (σ:=Int) (fun r=>decide (0≤r)=decide (s∈l)) (fun r=> .int .i64 r) (fun _=>[]):=by
 refine JE [.slice ao l.length cap,sv s] Tryz.func163 Tryz.ntmps163 fun w S=>?_;refine a8 ?_;refine cK (σ:=Nat) (fun k=>k≤l.length∧∀j,j<k→l.getD j default≠s) (fun k=>[(0, .slice ao l.length cap),(1,sv s),(7, .int .i64 l.length),(8, .int .i64 k)]) (fun k=>[aO w S,rd ao l.length cap gL l]) (fun k=>l.length-k) 0 ?_ fun k hk K hK=>?_
 ·exact⟨bQ _,fun j hj=>aA⟩
 refine Jn ?_;obtain⟨h1,h2⟩:=hk
 by_cases hlt:k<l.length
 ·by_cases he:s=l.getD k default
  ·have he':decide (s=l.getD k default)=true:=decide_eq_true he;refine a8 ?_;exact End.aX (k:Int) (he:=rfl) (hp:=by rw[decide_eq_true aA,decide_eq_true (by rw[he];exact dW hlt)])
  ·have he':decide (s=l.getD k default)=false:=decide_eq_false he;refine a8 ?_;refine End.bK hK (k+1) ⟨hlt,fun j hj=>?_⟩ aA;rcases wY.1 hj with hj|rfl
   ·exact h2 j hj
   ·exact fun h=>he h.symm
 ·obtain rfl:k=l.length:=aA;refine a8 ?_;exact End.aX (-1) (he:=rfl) (hp:=by rw[decide_eq_false aK,decide_eq_false (aDN h2)])
theorem G1(ao:Option Addr)(cap:Nat)(l:List aH)(hm:l.length≤1000000000)(s:aH):Fn Tryz.prog 138 #[.slice ao l.length cap,sv s] [rd ao l.length cap gL l] [] (σ:=Unit) (fun _=>True) (fun _=> .bool (decide (s∈l))) (fun _=>[]):=by
 refine JE [.slice ao l.length cap,sv s] Tryz.func138 Tryz.ntmps138 fun w S=>?_;refine a8 ?_;refine oO (aHJ ao cap l hm s) fun r hr=>?_;exact End.aX () (he:=congrArg Value.bool hr) (hp:=trivial)
abbrev gC(t:Fr.Ty):Value:= .agg #[.int .i64 t.kind,sv t.gen]
theorem vW(t:Fr.Ty):Fn Tryz.prog 178 #[gC t] [] [] (σ:=Unit) (fun _=>True) (fun _=> .bool (Fr.cV t)) (fun _=>[]):=by
 refine JE [gC t] Tryz.func178 Tryz.ntmps178 fun w S=>?_;refine Jn ?_
 repeat(refine Fy ?_;try intro b)
 exact End.aX () (he:=rfl) (hp:=trivial)
theorem A1(t:Fr.Ty):Fn Tryz.prog 179 #[gC t] [] [] (σ:=Unit) (fun _=>True) (fun _=>gC (Fr.bare t)) (fun _=>[]):=by
 refine JE [gC t] Tryz.func179 Tryz.ntmps179 fun w S=>?_;refine Jn ?_
 repeat(refine Fy ?_;try intro b)
 refine bU (vW t) fun u hu=>?_;rcases rF (Fr.cV t)with h|h
 ·refine a8 ?_;exact End.fX () (he:=by unfold Fr.bare;rw[if_pos h]) (hp:=trivial)
 ·refine a8 ?_;exact End.fX () (he:=by unfold Fr.bare;rw[if_neg (by rw[h];decide)]) (hp:=trivial)
theorem sU:Fn Tryz.prog 208 #[] [] [] (σ:=Unit) (fun _=>True) (fun _=>gC Fr.kJ) (fun _=>[]):=by
 refine JE [] Tryz.func208 Tryz.ntmps208 fun w S=>?_;refine Jn ?_
 repeat(refine Fy ?_;try intro b)
 exact End.fX () (he:=rfl) (hp:=trivial)
theorem uN:Fn Tryz.prog 199 #[] [] [] (σ:=Unit) (fun _=>True) (fun _=>gC Fr.gM) (fun _=>[]):=by
 refine JE [] Tryz.func199 Tryz.ntmps199 fun w S=>?_;refine Jn ?_
 repeat(refine Fy ?_;try intro b)
 exact End.fX () (he:=rfl) (hp:=trivial)
abbrev fD(x:cT)(i:Nat):Value:= .pointer (some ⟨ob x.o,oo x.o+i*sz mV,none⟩)
abbrev j3(q mb:Nat)(x:cT)(l:List (aH×Nat)):List Chunk:=[aF q [.slice x.o x.l.length x.c, .map (some mb)] 293,mp mb (fD x) l]
abbrev IX(x:cT):Option Nat→Value
 |none=> .pointer none
 |some i=>fD x i
def isKind(x:cT)(k:Int):Option Nat→Bool
 |none=>false
 |some i=>decide ((x.l.getD i default).kind=k)
theorem GV(q mb:Nat)(cs:List Chunk)(x:cT)(h:oH cs x.o x.c x.l)(l:List (aH×Nat))(hl:∀s i,bG l s=some i→i<x.l.length)(k:Int)(s:aH):Fn Tryz.prog 187 #[ptr q, .int .i64 k,sv s] [bX cs] (j3 q mb x l) (σ:=Unit) (fun _=>True) (fun _=> .tuple #[IX x (bG l s), .bool (isKind x k (bG l s))]) (fun _=>j3 q mb x l):=by
 refine JE [ptr q, .int .i64 k,sv s] Tryz.func187 Tryz.ntmps187 fun w S=>?_;refine Jn ?_
 cases hm:bG l s with
 |none=>
  refine aI ?_;exact End.oL () (he:=rfl) (hp:=trivial)
 |some i=>
  have hd:=(h.at (hl s i hm)).has;refine aI ?_;exact End.oL () (he:=rfl) (hp:=trivial)
theorem aFg(q mb:Nat)(cs:List Chunk)(x:cT)(h:oH cs x.o x.c x.l)(l:List (aH×Nat))(hl:∀s i,bG l s=some i→i<x.l.length)(t:Fr.Ty):Fn Tryz.prog 177 #[ptr q,gC t] [bX cs] (j3 q mb x l) (σ:=Int) (fun e=>e=0↔(Fr.cV t||isKind x 3 (bG l t.gen))=true) (fun e=> .int .i64 e) (fun _=>j3 q mb x l):=by
 refine JE [ptr q,gC t] Tryz.func177 Tryz.ntmps177 fun w S=>?_;refine Jn ?_
 repeat(refine Fm ?_;try intro b)
 refine bU (vW t) fun u hu=>?_;rcases rF (Fr.cV t)with hp|hp
 ·refine aI ?_;exact End.aX 0 (he:=rfl) (hp:=by rw[hp];simp)
 refine aI ?_;refine bU (GV q mb cs x h l hl 3 t.gen) fun v hv=>?_;rcases rF (isKind x 3 (bG l t.gen))with hk|hk
 ·refine aI ?_;exact End.aX 0 (he:=rfl) (hp:=by rw[hk];simp)
 ·refine aI ?_;exact End.aX 7 (he:=rfl) (hp:=by rw[hk,hp];simp)
structure Sc where
 b:Nat
 l:List (aH×Fr.Ty)
instance:Inhabited Sc:=⟨⟨0,[]⟩⟩
def pP(s:Sc):List Value:=[.map (some s.b)]
instance:bH pP:=⟨fun _=>rfl,aK,fun a u hu=>by simp[pP]at hu;subst hu;rfl⟩
abbrev kW(s:Sc):Chunk:=mp s.b gC s.l
structure SC where
 pg:Value
 df:Value
 o:Option Addr
 c:Nat
 bs:List Sc
abbrev GW(q:Nat)(x:SC):List Chunk:=[aF q [x.pg,x.df, .slice x.o x.bs.length x.c] 316,arr x.o x.bs.length x.c 313 pP x.bs,bC (x.bs.map kW)]
abbrev jA(l:List Sc):Fr.Scope:=(l.map (·.l)).reverse
theorem F8(l:List (aH×Fr.Ty))(s:aH):bG l s=Fr.at_ l s:=by
 induction l with
 |nil=>rfl
 |cons p r ih=>
  obtain⟨q,a⟩:=p;unfold Fr.at_ at ih⊢;rw[bG,y8]
  by_cases h:q=s
  ·simp[h]
  ·simp[h,ih]
theorem uG{α β:Type} [Inhabited α](f:α→β):∀{l:List α} {i:Nat},i<l.length→(l.map f).Perm ([f (l.getD i default)] ++(l.eraseIdx i).map f)
 |[],i,h=>by simp at h
 |a::l,0,h=>by simp
 |a::l,i+1,h=>by
  have:=uG f (l:=l) (i:=i) (by simpa using h);simp only[fI,List.getD_cons_succ,List.eraseIdx_cons_succ];exact(List.Perm.cons _ this).trans (List.Perm.swap _ _ _)
abbrev aCt:Option Fr.Ty→Value
 |some t=> .tuple #[gC t, .bool true]
 |none=> .tuple #[gC default, .bool false]
theorem M6{l:List Sc}{k:Nat}(h:k<l.length):jA (l.take (k+1))=(l.getD k default).l::jA (l.take k):=by
 unfold jA;rw[mM h];simp
theorem M3(q:Nat)(x:SC)(hx:x.bs.length≤1000000000)(s:aH):Fn Tryz.prog 197 #[ptr q,sv s] [] (GW q x) (σ:=Unit) (fun _=>True) (fun _=>aCt (Fr.eN (jA x.bs) s)) (fun _=>GW q x):=by
 refine JE [ptr q,sv s] Tryz.func197 Tryz.ntmps197 fun w S=>?_;refine Jn ?_
 repeat(refine Fy ?_;try intro b)
 obtain⟨rb,rfl⟩:=a7 b;refine cK (σ:=Nat) (fun j=>j≤x.bs.length∧Fr.eN (jA (x.bs.take j)) s=Fr.eN (jA x.bs) s) (fun j=>[(0,ptr q),(1,sv s),(4,ptr rb),(5, .bool false),(6, .int .i64 ((j:Int)-1))]) (fun j=>aO w S::aF rb [.int .i64 0,sv []] 141::GW q x) (fun j=>j) x.bs.length ?_ fun j hj K hK=>?_
 ·exact⟨bS _,by rw[pF]⟩
 refine Jn ?_;obtain⟨h1,h2⟩:=hj
 by_cases h0:j=0
 ·subst h0;refine a8 ?_;exact End.gI () (he:=by rw[←h2];rfl) (hp:=trivial)
 obtain⟨k,rfl⟩:∃k,j=k+1:=⟨j-1,aA⟩;rw[show((k+1:Nat):Int)-1=(k:Int) by omega];have hlt:k<x.bs.length:=aA;rw[M6 hlt]at h2;apply aG.imp (fun w hm=>hm.pH tk (uG kW hlt))
 cases hm:bG (x.bs.getD k default).l s with
 |some t=>
  repeat(refine Fy ?_;try intro b)
  apply End.imp (fun w hm=>hm.nC (es:=(x.bs.eraseIdx k).map kW) tk (.cons tk .nil) (uG kW hlt) (by simp[kW,gU]));exact End.gI () (he:=by rw[←h2,Fr.eN,←F8,hm]) (hp:=trivial)
 |none=>
  repeat(refine Fy ?_;try intro b)
  apply End.imp (fun w hm=>hm.nC (es:=(x.bs.eraseIdx k).map kW) tk (.cons tk .nil) (uG kW hlt) (by simp[kW,gU]));exact End.bK hK k ⟨aA,by rw[←h2,Fr.eN,←F8,hm]⟩ aA
end Vw
namespace Vw
open Go Go.RowKit Img
theorem aFY(x y:Fr.Ty)(w:World):(Op.equalIn 10000 141 (gC x) (gC y)).run Tryz.prog w= .ok (decide (x=y)) w:=by
 have a1:=Tryz.underlying2;have a2:=Tryz.underlying9;have a3:=Tryz.underlying3;have hS:Tryz.prog.underlying 141=some (.struct (Tryz.prog.fieldsOf 141)):=b7;have hp:Tryz.prog.stoodInHeld 141=false:=b7;obtain⟨a,b⟩:=x;obtain⟨a',b'⟩:=y;rw[show(10000:Nat)=9999+1 from rfl,run_equalIn_agg w 9999 141 _ _ hS hp];simp only[Program.fieldsOf,Tryz.underlying141]
 go_simp
 by_cases h1:a=a'
 ·by_cases h2:b=b'<;>simp[h1,h2]
 ·simp[h1]
section
variable{N:Nd}{E:Env}{L:List Chunk}{dst:Option Tmp}{ty:TypeId}{pos:String}{aft:Array Edge}{g:Option (Nat×Bool)}
theorem Still.T5{x y:Operand}{a b:Fr.Ty}(hx:ev E x=some (gC a))(hy:ev E y=some (gC b)):Still Tryz.prog N ⟨dst, .binOp .neq 141 x y 141,ty,pos,aft,g⟩ E L (.bool (!decide (a=b))):=fun A w hs _=>by
 have h:=aFY a b w;simp[execOp,hs.ev hx,hs.ev hy,eqGuard,binOp,Op.equal,Op.maxDepth,h]
end
end Vw
section
section
open Go Go.RowKit
variable{P:Program}{ops:Array Oper}{Q:Exit→Act→World→Prop}{N:Nd}{e:Nat}{LT:List Chunk}{E:Env}{L F:List Chunk}{fuel:Nat}{listed:Array Bool}
theorem RunT.aEB(i:Nat){o:Oper}{j:Nat}{want:Bool}(h:aB P Q N o E L (fun E' L'=>Good e LT (listed.setIfInBounds i true) L'∧RunT P ops Q N e LT fuel (listed.setIfInBounds i true) E' L'))(ho:ops[i]?=some o:=by exact rfl)(hr:Region.ready .any ops listed=[i]:=by kernel_rfl)(hg:o.guard=some (j,want):=by exact rfl)(hgd:gd ops E j=some (.bool want):=by exact rfl):RunT P ops Q N e LT (fuel+1) listed E L:=
 fun a w hs hM=>UN hr ho fun K' hK'=>by
  rw[if_pos (by rw[uT hs hg hgd];simp)];exact h K' (fun E' L' hc a w hs hm=>hK' a w (hc.1.imp id fun⟨F,t⟩=>(hm.aP t).left) (hc.2 a w hs hm)) a w hs hM
end
end
namespace Vw
open Go.RowKit Img
section
attribute [local irreducible] aE aG End aB Still aN aU RunT Fn aS
structure SE where
 q:Nat
 p:Nat
 mb:Nat
 x:cT
 ns:List (aH×Nat)
 di:Nat
 o:Option Addr
 c:Nat
 bs:List Sc
namespace SE
abbrev sc(s:SE):SC:=⟨ptr s.p,fD s.x s.di,s.o,s.c,s.bs⟩
abbrev m(s:SE):List Chunk:=GW s.q s.sc ++j3 s.p s.mb s.x s.ns
abbrev P(s:SE):List Fr.Df:=s.x.l.map DL.df
abbrev D(s:SE):Fr.Df:=(s.x.l.getD s.di default).df
abbrev B(s:SE):Fr.Scope:=jA s.bs
end SE
structure SE.Ok(cs:List Chunk)(s:SE):Prop where
 kQ:oH cs s.x.o s.x.c s.x.l
 di:s.di<s.x.l.length
 lt:∀n i,bG s.ns n=some i→i<s.x.l.length
 ns:∀n,(bG s.ns n).map (fun i=>(s.x.l.getD i default).df)=Fr.dG s.P n
 eL:s.bs.length≤1000000000
abbrev wV(cs:List Chunk)(s:SE)(x:EL):Prop:=∀b o,nQ cs b o x→Fn Tryz.prog 196 #[ptr s.q, .pointer (some ⟨b,o,none⟩)] [bX cs,cF] s.m (σ:=Fr.Ty×Int) (fun r=>(r.2=0∧Fr.b9 s.P s.D s.B x.ex=some r.1)∨(r.2≠0∧Fr.b9 s.P s.D s.B x.ex=none)) (fun r=> .tuple #[gC r.1, .int .i64 r.2]) (fun _=>s.m)
theorem sV(cs:List Chunk)(s:SE)(x:EL)(hE:wV cs s x)(t:Fr.Ty)(xb o:Nat)(hx:nQ cs xb o x):Fn Tryz.prog 198 #[ptr s.q, .pointer (some ⟨xb,o,none⟩),gC t] [bX cs,cF] s.m (σ:=Int) (fun e=>e=0↔(Fr.same (Fr.b9 s.P s.D s.B x.ex) t).isSome=true) (fun e=> .int .i64 e) (fun _=>s.m):=by
 refine JE [ptr s.q, .pointer (some ⟨xb,o,none⟩),gC t] Tryz.func198 Tryz.ntmps198 fun w S=>?_;refine Jn ?_
 repeat(refine Fm ?_;try intro b)
 obtain⟨tb,rfl⟩:=a7 b;refine bU (hE xb o hx) fun r hr=>?_;rcases hr with⟨h1,h2⟩|⟨h1,h2⟩
 ·have h1':decide (r.2=0)=true:=decide_eq_true h1
  repeat(refine Fm ?_;try intro b)
  refine b8 8 [aF b [.int .i64 r.1.kind,sv r.1.gen] 141,aF tb [.int .i64 t.kind,sv t.gen] 141] 8 ?_;refine iU [0,1,2] ?_;refine RunT.part (d:=17) (decide (r.2=0)) rfl (fun _=>?_) (fun h=>absurd h1 (of_decide_eq_false h));refine RunT.NQ 3 (h:=?_);refine RunT.NQ 4 (h:=?_);refine RunT.aEB 5 (h:=?_);refine aB.bA (spec:=A1 t) (r:=fun w=>qV) (k:=?_);intro u hu;refine JG ?_;refine Jn ?_;refine RunT.NQ 6 (hy:=Still.T5 (a:=r.1) (b:=Fr.bare t) rfl rfl) (h:=?_);refine JN 7 ?_;refine b6 ?_
  by_cases h3:r.1=Fr.bare t
  ·refine aI ?_;exact End.aX r.2 (he:=rfl) (hp:=⟨fun _=>by rw[h2,Fr.same,eR,if_pos h3];rfl,fun _=>h1⟩)
  ·refine aI ?_;exact End.aX 9 (he:=rfl) (hp:=⟨fun h=>absurd h aK,fun h=>by rw[h2,Fr.same,eR,if_neg h3]at h;cases h⟩)
 ·have h1':decide (r.2=0)=false:=decide_eq_false h1
  repeat(refine Fm ?_;try intro b)
  refine b8 8 [] 8 ?_;refine iU [0,1,2] ?_;refine RunT.part (d:=17) (decide (r.2=0)) rfl (fun h=>absurd (of_decide_eq_true h) h1) (fun _=>?_);refine RunT.G4 3 (h:=?_);refine RunT.G4 4 (h:=?_);refine RunT.G4 5 (h:=?_);refine RunT.G4 6 (h:=?_);refine JN 7 ?_;refine b6 ?_;refine aI ?_;exact End.aX r.2 (he:=rfl) (hp:=⟨fun h=>absurd h h1,fun h=>by rw[h2]at h;cases h⟩)
def AO(s:SE)(l:List EL):Bool:=match Fr.fF s.P s.D s.B (EL.bW l)with
 |some [a,b]=>decide (a=b)&&Fr.cV a
 |_=>false
theorem UK(s:SE)(u v:EL):AO s [u,v]=match Fr.b9 s.P s.D s.B u.ex,Fr.b9 s.P s.D s.B v.ex with
 |some a,some b=>decide (a=b)&&Fr.cV a
 |_,_=>false:=by
 unfold AO;simp only[tP,fI,m9,Fr.fF]
 cases Fr.b9 s.P s.D s.B u.ex<;>cases Fr.b9 s.P s.D s.B v.ex<;>rfl
theorem aF7(cs:List Chunk)(s:SE)(x u v:EL)(hk:x.kids=[u,v])(hE:∀y∈x.kids,wV cs s y)(xb o:Nat)(hx:nQ cs xb o x):Fn Tryz.prog 209 #[ptr s.q, .pointer (some ⟨xb,o,none⟩)] [bX cs,cF] s.m (σ:=Fr.Ty×Int) (fun r=>r.2=0↔AO s x.kids=true) (fun r=> .tuple #[gC r.1, .int .i64 r.2]) (fun _=>s.m):=by
 have h2:x.kids.length=2:=by rw[hk];rfl
 have hX:=hx.has;have ha:=hx.arr;have k0:=hx.mF (i:=0) aA;have k1:=hx.mF (i:=1) aA;have e0:=hE u (by rw[hk];simp);have e1:=hE v (by rw[hk];simp);rw[show x.kids.getD 0 default=u by rw[hk];rfl]at k0;rw[show x.kids.getD 1 default=v by rw[hk];rfl]at k1;rw[show AO s x.kids=_ from((congrArg (AO s) hk).trans (UK s u v))];refine JE [ptr s.q, .pointer (some ⟨xb,o,none⟩)] Tryz.func209 Tryz.ntmps209 fun w S=>?_;refine Jn ?_
 repeat(refine Fm ?_;try intro b)
 apply aE.op aV;refine aB.bP (h:=Still.vB (i:=0) (f:=eK) (l:=x.kids) rfl rfl tk ha rfl rfl rfl rfl aA) (k:=?_);refine aI ?_;obtain⟨rb,rfl⟩:=a7 b;refine bU (e0 _ _ k0) fun f hf=>?_;rcases hf with⟨f1,f2⟩|⟨f1,f2⟩
 rotate_left
 ·have f1':decide (f.2=0)=false:=decide_eq_false f1
  repeat(refine Fm ?_;try intro b)
  exact End.gI f (he:=rfl) (hp:=⟨fun h=>absurd h f1,fun h=>by rw[f2]at h;cases h⟩)
 obtain⟨ft,fe⟩:=f;dsimp only at f1 f2;subst f1
 repeat(refine Fm ?_;try intro b)
 obtain⟨tb,rfl⟩:=a7 b;refine bU (e1 _ _ k1) fun g hg=>?_;rcases hg with⟨g1,g2⟩|⟨g1,g2⟩
 rotate_left
 ·have g1':decide (g.2=0)=false:=decide_eq_false g1
  repeat(refine Fm ?_;try intro b)
  exact End.gI (ft,g.2) (he:=rfl) (hp:=⟨fun h=>absurd h g1,fun h=>by rw[f2,g2]at h;cases h⟩)
 obtain⟨gt,ge⟩:=g;dsimp only at g1 g2;subst g1;rw[f2,g2]
 repeat(refine Fm ?_;try intro b)
 refine aE.eE (h:=?_);refine aB.bP (h:=Still.T5 (a:=ft) (b:=gt) rfl rfl) (k:=?_)
 by_cases hab:ft=gt
 ·have hab':decide (ft=gt)=true:=decide_eq_true hab;refine aI ?_;refine bU (vW ft) fun z hz=>?_;rcases rF (Fr.cV ft)with hp|hp
  ·refine aI ?_;exact End.gI (ft,0) (he:=rfl) (hp:=⟨fun _=>by dsimp only;rw[hab',hp];rfl,fun _=>rfl⟩)
  ·refine aI ?_;exact End.gI (ft,9) (he:=rfl) (hp:=⟨fun h=>absurd (show(9:Int)=0 from h) aK,fun h=>by dsimp only at h;rw[hp,Bool.and_false]at h;cases h⟩)
 ·have hab':decide (ft=gt)=false:=decide_eq_false hab;refine aI ?_;exact End.gI (ft,9) (he:=rfl) (hp:=⟨fun h=>absurd (show(9:Int)=0 from h) aK,fun h=>by dsimp only at h;rw[hab']at h;cases h⟩)
end
end Vw
namespace Fr
open ImgM
def gV(P:List Df)(B:Scope):Prop:=∀b∈B,∀p∈b,gA P p.2=true
theorem at_mem{α:Type}{m:List (aH×α)}{s:aH}{t:α}(h:at_ m s=some t):(s,t)∈m:=by
 unfold at_ at h;obtain⟨p,hp,rfl⟩:=cQ.1 h;have h1:=EA hp;have h2:=List.find?_some hp;simp only[JV]at h2;subst h2;exact h1
theorem LF{α:Type}:∀{B:List (List (aH×α))} {s:aH} {t:α},eN B s=some t→∃b∈B,(s,t)∈b
 |[],s,t,h=>by cases h
 |b::r,s,t,h=>by
  unfold eN at h
  split at h
  ·next t' e=>cases h;exact⟨b,gF,at_mem e⟩
  ·obtain⟨c,h1,h2⟩:=LF h;exact⟨c,gZ _ h1,h2⟩
section
variable{P:List Df}{D d:Df}{B:Scope}{k:Int}{s:aH}
theorem pI(h:dG P s=some d):d∈P∧d.name=s:=⟨EA h,by simpa using List.find?_some h⟩
theorem lD(h:kR P k s=some d):dG P s=some d∧d.kind=k:=by
 unfold kR at h;obtain⟨x,h1,h2⟩:=bF.1 h
 split at h2<;>cases h2
 exact⟨h1,by assumption⟩
theorem AS{t:Ty}(h:cV t=true):gA P t=true:=by unfold gA;rw[h];rfl
theorem AR{t:Ty}(h:cV t=true):cV (bare t)=true:=by unfold bare;rw[if_pos h];exact h
theorem xV(h:gR P d=true)(hk:d.kind≠4):cV d.type=true:=by
 unfold gR at h;simp only[JX]at h;have:=h.2;rw[decide_eq_false hk]at this;simpa using this
theorem SZ(h:gR P d=true)(hk:d.kind=3):cV d.aP=true:=by
 unfold gR at h;simp only[JX]at h;have:=h.1.2;rw[decide_eq_true hk]at this;simpa using this
theorem FF(h:gR P d=true)(hk:d.kind=2∨d.kind=3):(d.params.map (·.name)).Nodup∧∀p∈d.params,gA P p.type=true:=by
 unfold gR at h;simp only[JX]at h;have:=h.1.1;have e:(decide (d.kind=2)||decide (d.kind=3))=true:=by simpa using hk
 rw[e]at this;simpa using this
theorem x9{t:Ty}(h:gA P t=true)(hp:cV t=false):∃d,kR P 3 t.gen=some d:=by
 unfold gA at h;rw[hp,Bool.false_or]at h;exact lK.1 h
theorem yP(hH:∀d∈P,gR P d=true)(hD:D∈P)(hB:gV P B):∀(x:Ex) (t:Ty),b9 P D B x=some t→gA P t=true
 | .mk k n s l,t,h=>by
  rw[b9]at h
  by_cases h1:k=1
  ·rw[if_pos h1]at h;cases h;rfl
  rw[if_neg h1]at h
  by_cases h2:k=2
  ·rw[if_pos h2]at h;cases h;rfl
  rw[if_neg h2]at h
  by_cases h3:k=3
  ·rw[if_pos h3]at h;obtain⟨b,hb,hm⟩:=LF h;exact hB b hb _ hm
  rw[if_neg h3]at h
  by_cases h4:k=4
  ·rw[if_pos h4]at h;obtain⟨_,_,rfl⟩:=cQ.1 h;rfl
  rw[if_neg h4]at h
  by_cases h5:k=5
  ·rw[if_pos h5]at h;obtain⟨_,_,rfl⟩:=cQ.1 h;rfl
  rw[if_neg h5]at h
  by_cases h11:k=11∨k=12
  ·rw[if_pos h11]at h;obtain⟨ts,_,h⟩:=bF.1 h
   split at h
   ·split at h<;>cases h;rfl
   ·cases h
  rw[if_neg h11]at h
  by_cases h19:k=19
  ·rw[if_pos h19]at h;obtain⟨d,hd,h⟩:=bF.1 h;obtain⟨_,_,rfl⟩:=cQ.1 h;obtain⟨e1,e2⟩:=lD hd;exact AS (AR (xV (hH d (pI e1).1) aA))
  rw[if_neg h19]at h
  by_cases h20:k=20
  ·rw[if_pos h20]at h;obtain⟨d,hd,rfl⟩:=cQ.1 h;obtain⟨e1,e2⟩:=lD hd;exact AS (AR (xV (hH d (pI e1).1) aA))
  rw[if_neg h20]at h
  by_cases h21:k=21
  ·rw[if_pos h21]at h
   split at h
   ·next hk=>
    obtain⟨_,_,rfl⟩:=cQ.1 h;exact AS (AR (SZ (hH D hD) hk))
   ·cases h
  rw[if_neg h21]at h
  by_cases h22:k=22
  ·rw[if_pos h22]at h;obtain⟨d,hd,h⟩:=bF.1 h;obtain⟨_,_,rfl⟩:=cQ.1 h;unfold gA;rw[hd];simp
  rw[if_neg h22]at h
  by_cases h23:k=23
  ·rw[if_pos h23]at h;obtain⟨ts,hts,h⟩:=bF.1 h
   split at h
   ·next a b=>
    split at h
    ·cases h
    ·next hp=>
     obtain⟨d,hd,h⟩:=bF.1 h
     split at h<;>cases h
     cases l with
     |nil=>cases hts
     |cons x r=>
      rw[fF]at hts;obtain⟨u,hu,hts⟩:=bF.1 hts;obtain⟨us,_,e⟩:=cQ.1 hts
      cases e
      have ih:=yP hH hD hB x a hu;obtain⟨d',hd'⟩:=x9 ih (by simpa using hp);obtain⟨e1,e2⟩:=lD hd';rw[hd]at e1;cases e1;exact AS (AR (xV (hH d (pI hd).1) aA))
   ·cases h
  rw[if_neg h23]at h
  by_cases h24:k=24
  ·rw[if_pos h24]at h;obtain⟨ts,_,h⟩:=bF.1 h
   split at h
   ·split at h<;>cases h;rfl
   ·cases h
  rw[if_neg h24]at h;obtain⟨_,_,rfl⟩:=cQ.1 h
  by_cases h13:13≤k
  ·rw[if_pos h13];rfl
  ·rw[if_neg h13];rfl
termination_by x=>SizeOf.sizeOf x
theorem sR(h:gV P B):gV P ([]::B):=fun b hb=>by
 rcases cY.1 hb with rfl|hb
 ·simp
 ·exact h b hb
theorem DS{k:Int}{x:Ex}{b e:List St}{B':Scope}(h:lV P D B (.mk k s x b e)=some B'):(k=1→∃t c r,b9 P D B x=some t∧eN B s=none∧B=c::r∧B'=(c ++[(s,t)])::r)∧(k≠1→B'=B):=by
 rw[lV]at h
 by_cases h1:k=1
 ·rw[if_pos h1]at h;obtain⟨t,ht,h⟩:=bF.1 h;refine⟨fun _=>?_,fun h=>absurd h1 h⟩
  split at h
  ·cases h
  ·next hl=>
   split at h
   ·cases h
   ·cases h;exact⟨t,_,_,ht,by simpa using hl,rfl,rfl⟩
 rw[if_neg h1]at h;refine⟨fun h=>absurd h h1,fun _=>?_⟩
 repeat' split at h
 all_goals first|(cases h;rfl)|(cases h;done)|skip
 all_goals (try simp only[bF,cQ]at h)
 ·obtain⟨_,_,_,_,h⟩:=h;exact h.symm
 ·obtain⟨_,_,_,_,h⟩:=h;cases h;rfl
 ·obtain⟨_,_,_,_,_,_,h⟩:=h;exact h.symm
 ·obtain⟨_,_,h⟩:=h;exact h.symm
 ·obtain⟨_,_,_,_,h⟩:=h;exact h.symm
 ·obtain⟨_,_,h⟩:=h
  split at h<;>cases h;rfl
 ·obtain⟨_,_,h⟩:=h;exact h.symm
theorem N5{x:St}{B':Scope}(h:lV P D B x=some B'):B'=B∨∃s y t c r,b9 P D B y=some t∧B=c::r∧B'=(c ++[(s,t)])::r:=by
 obtain⟨k,s,x,b,e⟩:=x;obtain⟨h1,h2⟩:=DS h
 by_cases hk:k=1
 ·obtain⟨t,c,r,a, -,b,e⟩:=h1 hk;exact .inr ⟨s,x,t,c,r,a,b,e⟩
 ·exact .inl (h2 hk)
theorem DR(hH:∀d∈P,gR P d=true)(hD:D∈P)(hB:gV P B){x:St}{B':Scope}(h:lV P D B x=some B'):gV P B':=by
 rcases N5 h with rfl|⟨s,y,t,c,r,ht,rfl,rfl⟩
 ·exact hB
 ·intro b hb p hp;rcases cY.1 hb with rfl|hb
  ·rcases dF.1 hp with hp|hp
   ·exact hB _ gF p hp
   ·rw[dY.1 hp];exact yP hH hD hB _ _ ht
  ·exact hB b (gZ _ hb) p hp
theorem N7{x:St}{B':Scope}(h:lV P D B x=some B'):B'.tail=B.tail∧B'.length=B.length:=by
 rcases N5 h with rfl|⟨s,y,t,c,r,ht,rfl,rfl⟩
 ·exact⟨rfl,rfl⟩
 ·exact⟨rfl,rfl⟩
end
end Fr
namespace Vw
open Go.RowKit Img
mutual
def EL.fO:EL→Prop
 | .mk k n s _ _ l=>Fr.lO k n s l.length=true∧EL.iK l
def EL.iK:List EL→Prop
 |[]=>True
 |x::l=>x.fO∧EL.iK l
end
theorem EL.iK.all:∀{l:List EL},EL.iK l→∀x∈l,x.fO
 |[],_,x,hx=>by simp at hx
 |y::l,h,x,hx=>by
  rw[EL.iK]at h;rcases cY.1 hx with rfl|hx
  ·exact h.1
  ·exact EL.iK.all h.2 x hx
theorem EL.fO.head{x:EL}(h:x.fO):Fr.lO x.k x.n x.s x.kids.length=true:=by
 cases x;rw[EL.fO]at h;exact h.1
theorem EL.fO.kids{x:EL}(h:x.fO):∀y∈x.kids,y.fO:=by
 cases x;rw[EL.fO]at h;exact h.2.all
mutual
theorem W4:∀(x:EL) (d c c':Nat),Fr.iG d x.ex c=some c'→x.fO
 | .mk k n s o cc l,d,c,c',h=>by
  rw[EL.ex,Fr.iG]at h;obtain⟨c1, -,h⟩:=bF.1 h;rw[tP,Jf,←tP]at h
  split at h
  ·next hh=>rw[EL.fO];exact⟨hh,W5 l _ _ _ h⟩
  ·cases h
theorem W5:∀(l:List EL) (d c c':Nat),Fr.iX d (EL.bW l) c=some c'→EL.iK l
 |[],_,_,_,_=>by rw[EL.iK];trivial
 |x::l,d,c,c',h=>by
  rw[EL.bW,Fr.iX]at h;obtain⟨c1,h1,h⟩:=bF.1 h;rw[EL.iK];exact⟨W4 x _ _ _ h1,W5 l _ _ _ h⟩
end
theorem aD8{d c c':Nat}(h:Fr.nd d c=some c'):d≤40:=by
 unfold Fr.nd at h
 by_cases h1:2000<c+1∨40<d
 ·rw[if_pos h1]at h;cases h
 ·omega
mutual
def aM.fO:aM→Nat→Prop
 | .mk k s x _ _ b _ _ e,d=>d≤40∧Fr.sP k s=true∧(k≠6→x.fO)∧(k=3∨k=4→b.length≤50∧aM.iK b (d+1))∧(k=3→e.length≤50∧aM.iK e (d+1))
def aM.iK:List aM→Nat→Prop
 |[],_=>True
 |x::l,d=>x.fO d∧aM.iK l d
end
theorem aM.iK.all:∀{l:List aM} {d:Nat},aM.iK l d→∀x∈l,x.fO d
 |[],_,_,x,hx=>by simp at hx
 |y::l,d,h,x,hx=>by
  rw[aM.iK]at h;rcases cY.1 hx with rfl|hx
  ·exact h.1
  ·exact aM.iK.all h.2 x hx
theorem aM.fO.get{x:aM}{d:Nat}(h:x.fO d):d≤40∧Fr.sP x.k x.s=true∧(x.k≠6→x.x.fO)∧(x.k=3∨x.k=4→x.body.length≤50∧aM.iK x.body (d+1))∧(x.k=3→x.fJ.length≤50∧aM.iK x.fJ (d+1)):=by
 cases x;rw[aM.fO]at h;exact h
mutual
theorem aHK:∀(x:aM) (d c c':Nat),Fr.jT d x.st c=some c'→x.fO d
 | .mk k s x _ _ b _ _ e,d,c,c',h=>by
  rw[aM.st,Fr.jT]at h;obtain⟨c1,h1,h⟩:=bF.1 h;have hd:=aD8 h1;rw[aM.fO]
  split at h
  ·next hh=>
   refine⟨hd,hh,?_⟩
   split at h
   ·next h6=>subst h6;exact⟨fun h=>absurd rfl h,fun h=>aA,fun h=>aA⟩
   ·next h6=>
    obtain⟨c2,h2,h⟩:=bF.1 h;obtain⟨c3,h3,h⟩:=bF.1 h;refine⟨fun _=>W4 x _ _ _ h2,fun h34=>?_,fun h33=>?_⟩
    ·rw[if_pos h34]at h3
     split at h3
     ·cases h3
     ·next hl=>exact⟨by rw[yK,Jf]at hl;omega,G2 b _ _ _ h3⟩
    ·rw[if_pos h33]at h
     split at h
     ·cases h
     ·next hl=>exact⟨by rw[yK,Jf]at hl;omega,G2 e _ _ _ h⟩
  ·cases h
theorem G2:∀(l:List aM) (d c c':Nat),Fr.eH d (aM.bV l) c=some c'→aM.iK l d
 |[],_,_,_,_=>by rw[aM.iK];trivial
 |x::l,d,c,c',h=>by
  rw[aM.bV,Fr.eH]at h;obtain⟨c1,h1,h⟩:=bF.1 h;rw[aM.iK];exact⟨aHK x _ _ _ h1,G2 l _ _ _ h⟩
end
theorem EL.fO.len{x:EL}(h:x.fO):1≤x.k∧x.k≤24∧(0≤Fr.eW x.k→(x.kids.length:Int)=Fr.eW x.k)∧x.kids.length≤6:=by
 obtain⟨nm, -, -,h1⟩:=KW x.k x.n x.s x.kids.length;have h2:=h1.1 h.head;refine⟨h2.1,h2.2.1,fun h3=>?_,?_⟩
 ·have:=h2.2.2.2.2.2.1;omega
 ·have h4:=h2.2.2.2.2.2.1;have h5:=h2.2.2.2.2.2.2;have h6:Fr.eW x.k≤2:=by
   unfold Fr.eW
   repeat' split
   all_goals omega
  omega
structure SE.Kn(cs:List Chunk)(s:SE):Prop extends SE.Ok cs s where
 gS:∀d∈s.P,Fr.gR s.P d=true
 eI:Fr.gV s.P s.B
section
variable{cs:List Chunk}{s:SE}
theorem SE.IY(i:Nat)(hi:i<s.x.l.length):(s.x.l.getD i default).df∈s.P:=mR (dW hi)
theorem SE.Kn.cI(h:SE.Kn cs s){x:Fr.Ex}{t:Fr.Ty}(ht:Fr.b9 s.P s.D s.B x=some t):Fr.gA s.P t=true:=Fr.yP h.gS (SE.IY _ h.di) h.eI x t ht
theorem SE.Ok.T7(h:SE.Ok cs s){n:aH}(hn:bG s.ns n=none):Fr.dG s.P n=none:=by rw[←h.ns n,hn];rfl
theorem SE.Ok.FJ(h:SE.Ok cs s){n:aH}{i:Nat}(hn:bG s.ns n=some i):Fr.dG s.P n=some (s.x.l.getD i default).df:=by rw[←h.ns n,hn];rfl
theorem SE.Ok.E3(h:SE.Ok cs s){n:aH}{k:Int}(hk:isKind s.x k (bG s.ns n)=false):Fr.kR s.P k n=none:=by
 unfold Fr.kR
 cases hn:bG s.ns n with
 |none=>rw[h.T7 hn];rfl
 |some i=>
  rw[hn]at hk;rw[h.FJ hn,eR];exact if_neg (by simpa[isKind,DL.df]using hk)
theorem SE.Ok.E4(h:SE.Ok cs s){n:aH}{k:Int}(hk:isKind s.x k (bG s.ns n)=true):∃i,bG s.ns n=some i∧i<s.x.l.length∧(s.x.l.getD i default).kind=k∧Fr.kR s.P k n=some (s.x.l.getD i default).df:=by
 cases hn:bG s.ns n with
 |none=>rw[hn]at hk;cases hk
 |some i=>
  rw[hn]at hk;have hk:(s.x.l.getD i default).kind=k:=by simpa[isKind]using hk
  refine⟨i,rfl,h.lt n i hn,hk,?_⟩;unfold Fr.kR;rw[h.FJ hn,eR];exact if_pos hk
end
end Vw
section
open Go Go.RowKit
section
variable{P:Program} [eT P]{ops:Array Oper}{Q:Exit→Act→World→Prop}{N:Nd}{e:Nat}{LT:List Chunk}{E:Env}{L F:List Chunk}{fuel:Nat}{listed:Array Bool}
theorem TH{d:Tmp}{op:Op}{ty:TypeId}{pos:String}{aft:Array Edge}{v:Value}(i:Nat)(h:RunT P ops Q N e LT fuel (listed.setIfInBounds i true) ((d,v)::E) L)(hi:ops[i]?=some ⟨some d,op,ty,pos,aft,none⟩:=by exact rfl)(hns:Region.noSelect ops=true:=by kernel_rfl)(hf:Region.free .any ops listed i=true:=by kernel_rfl)(hr:(Region.ready .any ops listed).contains i=true:=by kernel_rfl)(he:Nat.ble ops.size e=true:=by kernel_rfl)(hsz:Nat.beq listed.size ops.size=true:=by kernel_rfl)(hQ:aS Q:=by exact MR)(hd:Nat.blt d N.n=true:=by exact rfl)(ht:aR LT L F:=by exact cA)(hy:Still P N ⟨some d,op,ty,pos,aft,none⟩ E LT v:=by exact Fh):RunT P ops Q N e LT (fuel+1) listed E L:=
 RunT.NR i (hi:=hi) (hns:=hns) (hf:=hf) (hr:=hr) (he:=he) (hsz:=hsz) (hQ:=hQ) (hd:=hd) (ht:=ht) (hy:=hy) (h:=h)
end
theorem Fp{A G:Prop}(k:G)(h:Bx G→A:=by intro hk;(first|(refine aE.eE (h:=?_);refine aB.bP (h:=by apply Still.AA;exact rfl;exact rfl;(focus ((repeat(first|exact Take.head|apply Take.tail));done));(focus assumption);(repeat(first|exact Cut.done|apply Cut.take|apply Cut.skip));done) (k:=?_);exact hk.out)|(refine aE.eE (h:=?_);refine aB.bP (h:=by apply Still.FY;exact rfl;exact rfl;(focus ((repeat(first|exact Take.head|apply Take.tail));done));(focus assumption);(repeat(first|exact Cut.done|apply Cut.take|apply Cut.skip));done) (k:=?_);exact hk.out)|(refine aU.bP (h:=by apply Still.AA;exact rfl;exact rfl;(focus ((repeat(first|exact Take.head|apply Take.tail));done));(focus assumption);(repeat(first|exact Cut.done|apply Cut.take|apply Cut.skip));done) (k:=?_);exact hk.out)|(refine aU.bP (h:=by apply Still.FY;exact rfl;exact rfl;(focus ((repeat(first|exact Take.head|apply Take.tail));done));(focus assumption);(repeat(first|exact Cut.done|apply Cut.take|apply Cut.skip));done) (k:=?_);exact hk.out)|(refine aN.bP (h:=by apply Still.AA;exact rfl;exact rfl;(focus ((repeat(first|exact Take.head|apply Take.tail));done));(focus assumption);(repeat(first|exact Cut.done|apply Cut.take|apply Cut.skip));done) (k:=?_);exact hk.out)|(refine aN.bP (h:=by apply Still.FY;exact rfl;exact rfl;(focus ((repeat(first|exact Take.head|apply Take.tail));done));(focus assumption);(repeat(first|exact Cut.done|apply Cut.take|apply Cut.skip));done) (k:=?_);exact hk.out)|(refine Fm ?_;exact hk.out)|fail)):A:=h ⟨k⟩
end
namespace Vw
open Go.RowKit Img
section
attribute [local irreducible] aE aG End aB Still aN aU RunT Fn aS
section
variable{P:List Fr.Df}{D:Fr.Df}{B:Fr.Scope}
theorem X4:∀{ts:List Fr.Ty} {l:List EL},ts.length≠l.length→Fr.eD P D B ts (EL.bW l)=none
 |[],[],h=>absurd rfl h
 |[],x::l,h=>by rw[EL.bW,Fr.eD];all_goals simp
 |t::ts,[],h=>by rw[EL.bW,Fr.eD];all_goals simp
 |t::ts,x::l,h=>by
  rw[EL.bW,Fr.eD,X4 (ts:=ts) (l:=l) (by simpa using h)]
  cases Fr.same (Fr.b9 P D B x.ex) t<;>rfl
theorem aHd{ts:List Fr.Pm}{l:List EL}{j:Nat}(h1:j<ts.length)(h2:j<l.length):Fr.eD P D B ((ts.drop j).map (·.type)) (EL.bW (l.drop j))=(Fr.same (Fr.b9 P D B (l.getD j default).ex) (ts.getD j default).type).bind fun _=>Fr.eD P D B ((ts.drop (j+1)).map (·.type)) (EL.bW (l.drop (j+1))):=by
 rw[oN h1,oN h2,fI,EL.bW,Fr.eD]
theorem K8{o:Option Unit}(h:o.isSome=true):o=some ():=by cases o with
 |none=>cases h
 |some _=>rfl
end
theorem WO(cs:List Chunk)(s:SE)(ok:SE.Ok cs s)(x:EL)(hl:x.kids.length≤6)(hE:∀y∈x.kids,wV cs s y)(k:Int)(xb o:Nat)(hx:nQ cs xb o x):Fn Tryz.prog 210 #[ptr s.q, .pointer (some ⟨xb,o,none⟩), .int .i64 k] [bX cs,cF] s.m (σ:=Option Nat×Int)
  (fun r=>(r.2=0∧∃i,r.1=some i∧i<s.x.l.length∧Fr.kR s.P k x.s=some (s.x.l.getD i default).df∧Fr.eD s.P s.D s.B ((s.x.l.getD i default).params.map (·.type)) (EL.bW x.kids)=some ())∨(r.2≠0∧(Fr.kR s.P k x.s).bind (fun d=>Fr.eD s.P s.D s.B (d.params.map (·.type)) (EL.bW x.kids))=none)) (fun r=> .tuple #[IX s.x r.1, .int .i64 r.2]) (fun _=>s.m):=by
 have hX:=hx.has;have ha:=hx.arr;have F:=GV s.p s.mb cs s.x ok.kQ s.ns ok.lt k x.s;obtain⟨r,hr⟩:∃r,r=bG s.ns x.s:=⟨_,rfl⟩;obtain⟨kb,hkb⟩:∃b,b=isKind s.x k r:=⟨_,rfl⟩;rw[←hr,←hkb]at F;refine JE [ptr s.q, .pointer (some ⟨xb,o,none⟩), .int .i64 k] Tryz.func210 Tryz.ntmps210 fun w S=>?_;refine aI ?_;refine b8 15 [bX cs,aF s.q [ptr s.p,fD s.x s.di, .slice s.o s.bs.length s.c] 316] 15 ?_;refine iU [0,1,2,3,4,5,6,7] ?_;refine TH 8 ?_;refine jF 9 (F) fun u hu=>?_;refine iU [10,11,12,13,14] ?_;refine b6 ?_
 cases kb with
 |false=>
  refine aI ?_;exact End.oL (none,7) (he:=rfl) (hp:= .inr ⟨show(7:Int)≠0 by decide,by rw[ok.E3 (k:=k) (by rw[←hr,←hkb])];rfl⟩)
 |true=>
  obtain⟨i,e1,hi,ek,ef⟩:=ok.E4 (k:=k) (n:=x.s) (by rw[←hr,←hkb]);obtain rfl:r=some i:=hr.trans e1;have hd:=ok.kQ.at hi;obtain⟨d,de⟩:∃d,s.x.l.getD i default=d:=⟨_,rfl⟩;rw[de]at hd ek;have hD:=hd.has;have hp:=hd.uE
  by_cases hn:d.params.length=x.kids.length
  rotate_left
  ·refine aI ?_;exact End.oL (none,5) (he:=rfl) (hp:= .inr ⟨show(5:Int)≠0 by decide,by rw[ef,de];exact X4 (by simpa[DL.df]using hn)⟩)
  refine aI ?_;refine cK (σ:=Nat) (fun j=>j≤x.kids.length∧Fr.eD s.P s.D s.B (d.params.map (·.type)) (EL.bW x.kids)=Fr.eD s.P s.D s.B ((d.params.drop j).map (·.type)) (EL.bW (x.kids.drop j))) (fun j=>[(0,ptr s.q),(1, .pointer (some ⟨xb,o,none⟩)),(8,fD s.x i),(44, .slice d.po d.params.length d.pc),(45, .int .i64 d.params.length),(46, .int .i64 j)]) (fun j=>aO w S::bX cs::cF::s.m) (fun j=>x.kids.length-j) 0 ?_ fun j hj K hK=>?_
  ·exact⟨bQ _,rfl⟩
  refine Jn ?_;obtain⟨hj,hT⟩:=hj
  by_cases hlt:j<x.kids.length
  ·have hE1:=hE _ (dW hlt);have hk1:=hx.mF hlt;have hpj:=Has.elem hp (i:=j) aA;rw[aHd aA hlt]at hT
   repeat(refine Fm ?_;try intro b)
   refine bU (sV cs s _ hE1 (d.params.getD j default).type _ _ hk1) fun e he=>?_
   by_cases h0:e=0
   ·subst h0;refine aI ?_;exact End.bK hK (j+1) ⟨hlt,by rw[hT,K8 (he.1 rfl)];rfl⟩ aA
   ·have h0':decide (e=0)=false:=decide_eq_false h0;refine aI ?_;exact End.oL (none,e) (he:=rfl) (hp:= .inr ⟨h0,by
     rw[ef,de];show Fr.eD s.P s.D s.B (d.params.map (·.type)) (EL.bW x.kids)=none;rw[hT]
     cases hs:Fr.same (Fr.b9 s.P s.D s.B (x.kids.getD j default).ex) (d.params.getD j default).type with
     |none=>rfl
     |some _=>exact absurd (he.2 (by rw[hs];rfl)) h0⟩)
  ·have hje:j=x.kids.length:=aA;refine aI ?_;exact End.oL (some i,0) (he:=rfl) (hp:= .inl ⟨rfl,i,rfl,hi,ef,by
    rw[de];refine hT.trans ?_;rw[iS aA,iS aA];rfl⟩)
theorem WQ(cs:List Chunk)(s:SE)(ok:SE.Ok cs s)(x:EL)(hE:wV cs s x)(xb o:Nat)(hx:nQ cs xb o x):Fn Tryz.prog 211 #[ptr s.q, .pointer (some ⟨xb,o,none⟩)] [bX cs,cF] s.m (σ:=Option Nat×Int)
  (fun r=>(r.2=0∧∃t,Fr.b9 s.P s.D s.B x.ex=some t∧Fr.cV t=false∧r.1=bG s.ns t.gen)∨(r.2≠0∧∀t,Fr.b9 s.P s.D s.B x.ex=some t→Fr.cV t=true)) (fun r=> .tuple #[IX s.x r.1, .int .i64 r.2]) (fun _=>s.m):=by
 refine JE [ptr s.q, .pointer (some ⟨xb,o,none⟩)] Tryz.func211 Tryz.ntmps211 fun w S=>?_;refine aI ?_;refine bU (hE xb o hx) fun r hr=>?_;rcases hr with⟨h1,h2⟩|⟨h1,h2⟩
 rotate_left
 ·have h1':decide (r.2=0)=false:=decide_eq_false h1
  repeat(refine Fm ?_;try intro b)
  exact End.oL (none,r.2) (he:=rfl) (hp:= .inr ⟨h1,fun t h=>by rw[h2]at h;cases h⟩)
 have h1':decide (r.2=0)=true:=decide_eq_true h1
 repeat(refine Fm ?_;try intro b)
 obtain⟨tb,rfl⟩:=a7 b;refine bU (vW r.1) fun u hu=>?_;rcases rF (Fr.cV r.1)with hp|hp
 ·refine aI ?_;exact End.oL (none,9) (he:=rfl) (hp:= .inr ⟨show(9:Int)≠0 by decide,fun t h=>by rw[h2]at h;cases h;exact hp⟩)
 cases hm:bG s.ns r.1.gen with
 |none=>
  refine aI ?_;exact End.oL (none,0) (he:=rfl) (hp:= .inl ⟨rfl,r.1,h2,hp,hm.symm⟩)
 |some i=>
  refine aI ?_;exact End.oL (some i,0) (he:=rfl) (hp:= .inl ⟨rfl,r.1,h2,hp,hm.symm⟩)
end
end Vw
end Go.Proofs.YtofckcabpchcmaaGreatDoor
