/- yieldref9's comparisons, walked: of what is alike; rows of one's own become rows that are only read. (XSol4's, without what is Solo's.) -/
import Derived.Test.YtofckcabpchcmaaGreatDoorM23
set_option linter.unusedVariables false
set_option linter.unusedSimpArgs false
set_option linter.unusedSectionVars false
set_option maxRecDepth 100000
namespace Go.Proofs.YtofckcabpchcmaaGreatDoor
namespace Vw
open Go.RowKit Img
section
attribute [local irreducible] aE aG End aB Still aN aU RunT Fn aS
abbrev V1(r:Rw):Chunk:=rd r.o r.l.length r.c aY r.l
theorem M5(a b:Rw)(h:a.l=b.l):Fn Tryz.prog 21 #[.slice a.o a.l.length a.c, .slice b.o b.l.length b.c] [V1 a,V1 b] [] (σ:=Unit) (fun _=>True) (fun _=> .bool true) (fun _=>[]):=by
 obtain⟨ao,ac,l⟩:=a;obtain⟨bo,bc,l'⟩:=b;dsimp only at h⊢;subst h;refine JE [.slice ao l.length ac, .slice bo l.length bc] Tryz.func21 Tryz.ntmps21 fun w S=>?_;refine Jn ?_;apply aG.fact (l.length≤9223372036854775807) (fun w hm=>(jJ.1 (hm.has (c:=rd ao l.length ac aY l) (tk))).1.2.1);intro hn
 repeat(refine Jy ?_;try first|intro ao cap|intro b)
 refine cK (σ:=Nat) (fun k=>k≤l.length) (fun k=>[(0, .slice ao l.length ac),(1, .slice bo l.length bc),(12, .int .i64 l.length),(13, .int .i64 k)]) (fun k=>[aO w S,rd ao l.length ac aY l,rd bo l.length bc aY l]) (fun k=>l.length-k) 0 ?_ fun k hk K1 hK1=>?_
 ·exact bQ _
 refine Jn ?_
 by_cases hkn:k<l.length
 ·repeat(refine Jy ?_;try first|intro ao cap|intro b)
  refine End.bK hK1 (k+1) ?_ ?_
  ·omega
  ·omega
 ·repeat(refine Jy ?_;try first|intro ao cap|intro b)
  exact fZ ()
theorem aFi(f g:FL)(h:f.ws=g.ws):Fn Tryz.prog 11 #[f.val,g.val] [fd f,fd g] [] (σ:=Unit) (fun _=>True) (fun _=> .bool true) (fun _=>[]):=by
 have hl:g.l.length=f.l.length:=by have:=congrArg List.length h;simpa using this.symm
 have hr:∀k,(g.l.getD k default).l=(f.l.getD k default).l:=fun k=>by rw[←SQ,←SQ,←(show f.l.map (·.l)=g.l.map (·.l)from h)]
 refine Fn.enter (args:=[f.val,g.val]) Tryz.func11 rfl _ Tryz.ntmps11 rfl (by simp[tQ]) (fun w S=>?_);refine Jn ?_;apply aG.fact (f.l.length≤9223372036854775807∧∀k,k<f.l.length→(f.l.getD k default).l.length≤9223372036854775807) (fun w hm=>(E2.1 (hm.has (tk))).small);intro hfs;apply aG.imp (fun w hm=>Mem.RT (f:=f) (tk) hm);apply aG.imp (fun w hm=>Mem.RT (f:=g) (tk) hm)
 repeat(refine Jy ?_;try first|intro ao cap|intro b)
 refine cK (σ:=Nat) (fun k=>k≤f.l.length) (fun k=>[(0,f.val),(1,g.val),(12, .int .i64 f.l.length),(13, .int .i64 k)]) (fun k=>[aO w S,fd f,fd g,rd f.o f.l.length f.c nM f.l,rd g.o g.l.length g.c nM g.l]) (fun k=>f.l.length-k) 0 ?_ fun k hk K1 hK1=>?_
 ·exact bQ _
 refine Jn ?_
 by_cases hkn:k<f.l.length
 ·apply aG.imp (fun w hm=>Mem.RU (f:=f) (k:=k) hkn (tk) hm);apply aG.imp (fun w hm=>Mem.RU (f:=g) (k:=k) aA (tk) hm)
  repeat(refine Jy ?_;try first|intro ao cap|intro b)
  (refine dV (M5 (f.l.getD k default) (g.l.getD k default) (hr k).symm) fun s hs=>?_)
  repeat(refine Jy ?_;try first|intro ao cap|intro b)
  refine End.bK hK1 (k+1) ?_ ?_
  ·omega
  ·omega
 ·repeat(refine Jy ?_;try first|intro ao cap|intro b)
  exact fZ ()
theorem aEz{w:World}{L F:List Chunk}{α:Type}{iα:Inhabited α}{ao:Option Addr}{n cap:Nat}{e:TypeId}{f:α→List Value}{ef:bH f}{l:List α}(t:aR [arr ao n cap e f l] L F)(h:Mem w L):Mem w (rd ao n cap f l::F):=by
 have ht:=h.aP t;have a1:=fV.1 (ht.all _ (.head _));exact Mem.DO t h (jJ.2 ⟨a1.1.row bH.pos,a1.2⟩) eO (fun b hb=>⟨_, .head _,gG.2 ⟨(iZ.1 hb).1,y7 (iZ.1 hb).2 a1.1.le⟩⟩)
theorem aBn{w:World}{L F:List Chunk}{f:FL}{t:TypeId}{e:TypeId}(tk:aR [arr f.o f.l.length f.c e nM f.l,bC (f.l.map (uK t))] L F)(h:Mem w L):Mem w (fd f::F):=by
 have ht:=h.aP tk;have a1:=fV.1 (ht.all _ (.head _));have a2:=qJ.1 (ht.all _ (.tail _ (.head _)));have hrow:∀r∈f.l,(uK t r).holds w:=fun r hr=>a2.1.all _ (eY.2 ⟨r,hr,rfl⟩);refine Mem.DO tk h (E2.2 ⟨a1.1.row bH.pos,fun r hr=>(fV.1 (hrow r hr)).1.row bH.pos⟩) tQ (fun b hb=>?_);rcases I4.1 hb with⟨h1,h2⟩|⟨r,hr,h1,h2⟩
 ·exact⟨_, .head _,gG.2 ⟨h1,y7 h2 a1.1.le⟩⟩
 ·exact⟨_, .tail _ (.head _),xK.2 ⟨_,eY.2 ⟨r,hr,rfl⟩,gG.2 ⟨h1,y7 h2 (fV.1 (hrow r hr)).1.le⟩⟩⟩
end
structure cC where
 tb:Nat
 co:Option Addr
 ccap:Nat
 bs:List Nat
 oth:List cN
 now:Nat
 cur:cN
 st:Int
 bx:Int
 tr:Int
 oo:Option Addr
 oc:Nat
 out:List Int
instance:Inhabited cC:=⟨⟨0,none,0,[],[],0,default,0,0,0,none,0,[]⟩⟩
abbrev cC.sl(t:cC)(E:dK)(e:E.μ):SL E:=⟨t.co,t.ccap,t.bs,t.oth,t.now,t.cur,t.st,t.bx,t.tr,t.oo,t.oc,t.out,e⟩
abbrev SL.lay{E:dK}(z:SL E)(tb:Nat):cC:=⟨tb,z.co,z.ccap,z.bs,z.oth,z.now,z.cur,z.st,z.bx,z.tr,z.oo,z.oc,z.out⟩
def cC.all(t:cC):List cN:=t.oth.set t.now t.cur
def cC.tk(t:cC):Vm.Tk:=⟨t.all.map cN.abs,t.now,t.st,t.bx,t.tr,t.out⟩
structure cC.Wf(t:cC):Prop where
 now:t.now<t.oth.length
 len:t.bs.length=t.oth.length
 eL:t.oth.length≤31
 at_:∀i,i<t.oth.length→(t.all.getD i default).cb=t.bs.getD i 0
 up:∀c∈t.all,c.upb=c.up.map fun j=>t.bs.getD j 0
 mN:∀c∈t.all,∀j,c.up=some j→j<t.oth.length
 sk:∀c∈t.all,c.sk.Ok
theorem cC.Wf.sl{t:cC}(h:t.Wf){E:dK}{e:E.μ}(he:E.ok e):(t.sl E e).Wf:=⟨h.now,h.len,h.eL,h.at_,h.up,h.mN,h.sk,he⟩
theorem SL.Wf.lay{E:dK}{z:SL E}(h:z.Wf)(tb:Nat):(z.lay tb).Wf:=⟨h.now,h.len,h.eL,h.at_,h.up,h.mN,h.sk⟩
abbrev wC(mb:Nat)(mail told:Value)(t:cC):List Chunk:=[aF t.tb (rV mb mail (.slice t.co t.bs.length t.ccap) t.cur.cb t.st t.bx t.tr (.slice t.oo t.out.length t.oc) told) 103,arr t.co t.bs.length t.ccap 100 jI t.bs,arr t.oo t.out.length t.oc 2 aY t.out,lL (t.oth.eraseIdx t.now),jP t.cur,gO t.cur,aF t.cur.sk.sb (nN t.cur.sk) 236,arr (some ⟨t.cur.sk.lb,0,none⟩) t.cur.sk.l.length t.cur.sk.l.length 2 aY t.cur.sk.l]
theorem XT(mb:Nat)(mail told:Value)(t:cC):∀c∈wC mb mail told t,c.bE=true:=by simp[iL,dU]
def lU(mb:Nat)(mail:Value)(told:Nat→Value):Nat→List cC→List Chunk
 |_,[]=>[]
 |k,t::l=>wC mb mail (told k) t ++lU mb mail told (k+1) l
def qY(mb:Nat)(mail:Value)(told:Nat→Value)(l:List cC):Chunk:=bC (lU mb mail told 0 l)
theorem G7(mb:Nat)(mail:Value)(told:Nat→Value)(l:List cC):(qY mb mail told l).bE=true:=iB
theorem N0(mb:Nat)(mail:Value)(told:Nat→Value):∀(k:Nat) (l r:List cC),lU mb mail told k (l ++r)=lU mb mail told k l ++lU mb mail told (k+l.length) r
 |k,[],r=>by simp[lU]
 |k,t::l,r=>by
  simp only[lU,w9,JW];rw[N0 mb mail told (k+1) l r,show k+1+l.length=k+(l.length+1) by omega];simp
def G8(mb:Nat)(mail:Value)(told:Nat→Value)(l:List cC)(k:Nat):Chunk:=bC (lU mb mail told 0 (l.take k) ++lU mb mail told (k+1) (l.drop (k+1)))
theorem XU(mb:Nat)(mail:Value)(told:Nat→Value){l:List cC}{k:Nat}(hk:k<l.length):(lU mb mail told 0 l).Perm (wC mb mail (told k) (l.getD k default) ++(lU mb mail told 0 (l.take k) ++lU mb mail told (k+1) (l.drop (k+1)))):=by
 have hl:l=l.take k ++(l.getD k default::l.drop (k+1)):=by
  rw[Jd,Je hk,JZ,List.getElem_cons_drop,y6]
 have hn:(l.take k).length=k:=by simp;omega
 have e:lU mb mail told 0 l=lU mb mail told 0 (l.take k) ++(wC mb mail (told k) (l.getD k default) ++lU mb mail told (k+1) (l.drop (k+1))):=by
  conv=>lhs;rw[hl]
  rw[N0,hn,sD,lU]
 rw[e];exact BP _ _ _
theorem Mem.NY{w:World}{L L':List Chunk}{mb:Nat}{mail:Value}{told:Nat→Value}{l:List cC}{k:Nat}(h:Mem w L)(t:Take (qY mb mail told l) L L')(hk:k<l.length):Mem w (wC mb mail (told k) (l.getD k default) ++(G8 mb mail told l k::L')):=
 Mem.pH h t (XU mb mail told hk)
theorem Mem.G5{w:World}{L L' F:List Chunk}{mb:Nat}{mail:Value}{told:Nat→Value}{l:List cC}{k:Nat}{t:cC}(h:Mem w L)(tk:Take (G8 mb mail told l k) L L')(t2:aR (wC mb mail (told k) t) L' F)(hk:k<l.length):Mem w (qY mb mail told (l.set k t)::F):=by
 refine Mem.nC h tk t2 ?_ (XT _ _ _ _);have:=XU mb mail told (l:=l.set k t) (k:=k) (by simpa using hk);have e1:(l.set k t).getD k default=t:=by rw[Jd,JS hk];rfl
 rw[e1,List.take_set_of_le (bS _),List.drop_set_of_lt aA]at this;exact this
theorem Mem.aH0{w:World}{L L' F:List Chunk}{mb:Nat}{mail:Value}{told:Nat→Value}{l:List cC}{t:cC}(h:Mem w L)(tk:Take (qY mb mail told l) L L')(t2:aR (wC mb mail (told l.length) t) L' F):Mem w (qY mb mail told (l ++[t])::F):=by
 have h1:=Mem.B8 h tk t2 (XT _ _ _ _);have e:lU mb mail told 0 (l ++[t])=lU mb mail told 0 l ++wC mb mail (told l.length) t:=by
  rw[N0,sD];simp[lU]
 unfold qY;rw[e];exact h1
section
attribute [local irreducible] aE aG End aB Still aN aU RunT Fn aS
theorem QS{m:ML}(hwf:m.Wf)(hV:Ver.verify m.aC= .ok):∃T,Vm.gN m.aC T:=by
 have hF:=formed (Ver.wO.1 hV).form;refine Vm.aAa hV (fun k hk=>?_) (fun k hk i hi=>?_)
 ·rw[ML.jK];exact hF.oR hwf (by simpa using hk)
 ·unfold Vm.bL at hi;rw[ML.jK]at hi;have:=(hwf.us _ (ML.lW (m:=m) (by simpa using hk))).code i hi;exact⟨this.2.2,this.2.1⟩
def qO(m:ML)(k:Nat):Bool:=decide ((m.aC.aJ.getD k default).kind=4)
theorem NS(m:ML):Vm.tasks m.aC=(List.range m.us.length).filter (qO m):=by
 unfold Vm.tasks;simp only[ML.aC,Jf];rfl
theorem aHX(m:ML)(k:Nat):(List.range (k+1)).filter (qO m)=(List.range k).filter (qO m) ++if(m.us.getD k default).u.kind=4 then [k]else []:=by
 rw[nT,qD];congr 1;have e:qO m k=decide ((m.us.getD k default).u.kind=4):=by unfold qO;rw[ML.jK]
 simp only[l0,List.filter_nil,e]
 by_cases h:(m.us.getD k default).u.kind=4<;>simp only[h,decide_true,decide_false,if_true,if_false,BV]
theorem NT(m:ML)(k:Nat):((List.range k).filter (qO m)).length≤k:=by
 have:=nS (qO m) (List.range k);simpa using this
theorem aHT(mb:Nat)(m:ML)(hu:m.us.length≤1000):Fn Tryz.prog 29 #[ptr mb] [md m] [aF mb (lQ m) 26] (σ:=Option Addr×Nat) (fun _=>True) (fun s=> .slice s.1 (Vm.tasks m.aC).length s.2) (fun s=>[arr s.1 (Vm.tasks m.aC).length s.2 3 rP (Vm.tasks m.aC),aF mb (lQ m) 26]):=by
 rw[NS];refine JE [ptr mb] Tryz.func29 Tryz.ntmps29 fun w S=>?_;refine aD ?_;apply aG.imp (fun w hm=>hm.cU 3 rP);refine cK (σ:=Nat×Option Addr×Nat) (fun z=>z.1≤m.us.length) (fun z=>[(0,ptr mb),(3, .slice z.2.1 ((List.range z.1).filter (qO m)).length z.2.2),(9, .slice m.uo m.us.length m.uc),(10, .int .i64 m.us.length),(11, .int .i64 z.1)]) (fun z=>[aO w S,md m,aF mb (lQ m) 26,arr z.2.1 ((List.range z.1).filter (qO m)).length z.2.2 3 rP ((List.range z.1).filter (qO m))]) (fun z=>m.us.length-z.1) (0,none,0) ?_ fun z hz K1 hK1=>?_
 ·exact bQ _
 refine Jn ?_;obtain⟨q,ao,ac⟩:=z;simp only at hz hK1⊢;have htl:=NT m q
 by_cases hq:q<m.us.length
 ·have hsn:=aHX m q
  by_cases h4:(m.us.getD q default).u.kind=4
  ·rw[if_pos h4]at hsn;have hsl:((List.range (q+1)).filter (qO m)).length=((List.range q).filter (qO m)).length+1:=by rw[hsn];simp
   repeat(refine Jy ?_;try first|intro ao cap|intro b)
   rw[←hsn,←hsl];refine End.bK hK1 (q+1,ao,cap) ?_ ?_
   ·simp only;omega
   ·simp only;omega
  ·rw[if_neg h4,eS]at hsn
   repeat(refine Jy ?_;try intro b)
   rw[←hsn];refine End.bK hK1 (q+1,ao,ac) ?_ ?_
   ·simp only;omega
   ·simp only;omega
 ·obtain rfl:q=m.us.length:=aA;refine aD ?_;exact fZ (ao,ac)
abbrev cC.born(tb ob:Nat)(c:cN):cC:=⟨tb,some ⟨ob,0,none⟩,1,[c.cb],[c],0,c,1,0,0,none,0,[]⟩
theorem aAI{m:ML}{u:Nat}{c:cN}(h:m7 u (m.us.getD u default).u.locals.length c)(tb ob:Nat):(cC.born tb ob c).Wf∧(cC.born tb ob c).tk=Vm.new m.aC u:=by
 have hall:(cC.born tb ob c).all=[c]:=rfl;refine⟨⟨Nat.zero_lt_one,rfl,aW,fun i hi=>?_,fun d hd=>?_,fun d hd j hj=>?_,fun d hd=>?_⟩,?_⟩
 ·have:i=0:=by simpa using hi
  subst this;rfl
 ·rw[hall]at hd;simp at hd;subst hd;rw[h.up,h.upb];rfl
 ·rw[hall]at hd;simp at hd;subst hd;rw[h.up]at hj;cases hj
 ·rw[hall]at hd;simp at hd;subst hd;exact h.ok
 ·unfold cC.tk Vm.new;rw[hall];simp only[fI,m9];congr 2;unfold cN.abs Vm.begin;rw[h.st,h.up,h.fr,h.ws];have e1:(Vm.bL m.aC u).locals.length=(m.us.getD u default).u.locals.length:=by unfold Vm.bL;rw[ML.jK]
  simp only[Vm.Co.mk.injEq,List.cons.injEq,and_true,true_and];rw[e1];refine pE aW fun i h1 h2=>?_;simp
structure kM where
 xb:Nat
 bo:Option Addr
 bc:Nat
 rs:List Ring
 to:Option Addr
 tc:Nat
 ts:List cC
structure kM.Ok(m:ML)(s:kM):Prop where
 GS:s.rs.length=m.bx.length
 ring:∀b,b<m.bx.length→(s.rs.getD b default).Ok∧(s.rs.getD b default).l.length=Vm.nE m.aC b∧(s.rs.getD b default).n=0
 ts:s.ts.map cC.tk=(Vm.tasks m.aC).map (Vm.new m.aC)
 wf:∀t∈s.ts,t.Wf
abbrev vE(bo:Option Addr)(n bc:Nat):Value:= .iface 158 (.slice bo n bc)
abbrev kM.mem(m:ML)(mb:Nat)(s:kM):List Chunk:=[aF s.xb (mG s.to s.ts.length s.tc s.bo s.rs.length s.bc 0) 160,aF mb (lQ m) 26,arr s.to s.ts.length s.tc 95 jI (s.ts.map (·.tb)),arr s.bo s.rs.length s.bc 161 jI (s.rs.map (·.bb)),bC (s.rs.flatMap eA),qY mb (vE s.bo s.rs.length s.bc) (fun _=> .nilFunc) s.ts]
set_option maxHeartbeats 2000000 in
theorem P6(mb:Nat)(m:ML)(hb30:m.bx.length≤30)(hu30:m.us.length≤30)(hcap:∀b,b<m.bx.length→1≤(m.bx.getD b default).2∧(m.bx.getD b default).2≤20)(hloc:∀k,k<m.us.length→(m.us.getD k default).u.locals.length≤200):
  Fn Tryz.prog 25 #[ptr mb] [md m] [aF mb (lQ m) 26] (σ:=kM) (kM.Ok m) (fun s=>ptr s.xb) (kM.mem m mb):=by
 have htl:(Vm.tasks m.aC).length≤30:=by
  rw[NS];have:=NT m m.us.length;omega
 refine JE [ptr mb] Tryz.func25 Tryz.ntmps25 fun w S=>?_;refine Jn ?_
 repeat(refine Jy ?_;try intro b)
 obtain⟨xb,rfl⟩:=a7 b;apply aG.imp (fun w hm=>(hm.cU 161 jI).gH);refine cK (σ:=Nat×Option Addr×Nat×List Ring) (fun z=>z.1≤m.bx.length∧z.2.2.2.length=z.1∧∀b,b<z.1→(z.2.2.2.getD b default).Ok∧(z.2.2.2.getD b default).l.length=Vm.nE m.aC b∧(z.2.2.2.getD b default).n=0) (fun z=>[(0,ptr mb),(3,ptr xb),(13, .slice m.bo m.bx.length m.bc),(14, .int .i64 m.bx.length),(15, .int .i64 z.1)]) (fun z=>[aO w S,md m,aF mb (lQ m) 26,aF xb (mG none 0 0 z.2.1 z.1 z.2.2.1 0) 160,arr z.2.1 z.1 z.2.2.1 161 jI (z.2.2.2.map (·.bb)),bC (z.2.2.2.flatMap eA)]) (fun z=>m.bx.length-z.1) (0,none,0,[]) ?_ fun z hz K1 hK1=>?_
 ·exact⟨bQ _,rfl,fun b hb=>aA⟩
 refine Jn ?_;obtain⟨q,bo,bc,rs⟩:=z;obtain⟨z1,z2,z3⟩:=hz;dsimp only at z1 z2 z3 hK1⊢
 by_cases hq:q<m.bx.length
 ·obtain⟨c1,c2⟩:=hcap q hq;have hcn:(m.bx.getD q default).2=((Vm.nE m.aC q:Nat):Int):=by unfold Vm.nE;exact(oJ aA).symm
  have hc20:Vm.nE m.aC q≤20:=aA;have hc1:1≤Vm.nE m.aC q:=aA
  repeat(refine Jy ?_;try intro b)
  obtain⟨ib,rfl⟩:=a7 b;rw[hcn];refine b8 12 [aF xb (mG none 0 0 bo q bc 0) 160,aF ib [.int .i64 (m.bx.getD q default).1, .int .i64 ((Vm.nE m.aC q:Nat):Int)] 91] 13 ?_;refine bR [0,1,2,3,4,5,6] ?_;refine lN 7 (aDi (Vm.nE m.aC q) hc20) fun s hs=>?_;obtain⟨nb,lb⟩:=s;dsimp only;refine iF 8 fun b=>?_;(refine JT 9 ?_;refine aB.jN (a:=nb) (k:=?_);intro ao cap;refine JG ?_;refine Jn ?_);refine bR [10,11] ?_;refine gWl [12] ?_;refine b6 ?_;refine aD ?_;obtain⟨R,hR⟩:∃R:Ring,R=⟨nb,lb,List.replicate (Vm.nE m.aC q) 0,0,0⟩:=⟨_,rfl⟩;have hRok:R.Ok∧R.l.length=Vm.nE m.aC q∧R.n=0:=by rw[hR];exact⟨⟨bQ _,by simp;omega,by simp;omega⟩,aW,rfl⟩
  apply End.imp (fun w hm=>Mem.B8 (ds:=eA R) hm (tk) (by rw[hR];(repeat(first|exact aR.nil|exact Take.head|apply Take.tail|apply aR.cons))) (V8 R));have hfl:rs.flatMap eA ++eA R=(rs ++[R]).flatMap eA:=aW;have hmp:rs.map (·.bb) ++[nb]=(rs ++[R]).map (·.bb):=by rw[hR];simp
  rw[hfl,hmp];refine End.bK hK1 (q+1,ao,cap,rs ++[R]) ?_ ?_
  ·refine⟨by dsimp only;omega,by simp[z2],fun b hb=>?_⟩
   by_cases hbq:b<q
   ·rw[show(rs ++[R]).getD b default=rs.getD b default by simp only[Jd];rw[tD aA]];exact z3 b hbq
   ·obtain rfl:b=q:=by dsimp only at hb;omega
    rw[show(rs ++[R]).getD b default=R by rw[←z2];exact SP rs [] _];exact hRok
  ·dsimp only;omega
 ·obtain rfl:q=m.bx.length:=aA;clear hK1;refine aD ?_;(refine dV (aHT mb m aA) fun s hs=>?_);obtain⟨ko,kc⟩:=s;dsimp only;refine aD ?_;apply aG.imp (fun w hm=>(hm.cU 95 jI).gH);refine cK (σ:=Nat×Option Addr×Nat×List cC) (fun z=>z.1≤(Vm.tasks m.aC).length∧z.2.2.2.length=z.1∧z.2.2.2.map cC.tk=((Vm.tasks m.aC).take z.1).map (Vm.new m.aC)∧∀t∈z.2.2.2,t.Wf) (fun z=>[(0,ptr mb),(3,ptr xb),(33, .slice ko (Vm.tasks m.aC).length kc),(34, .int .i64 ((Vm.tasks m.aC).length:Int)),(35, .int .i64 z.1)]) (fun z=>[aO w S,md m,aF mb (lQ m) 26,arr ko (Vm.tasks m.aC).length kc 3 rP (Vm.tasks m.aC),aF xb (mG z.2.1 z.1 z.2.2.1 bo m.bx.length bc 0) 160,arr bo m.bx.length bc 161 jI (rs.map (·.bb)),bC (rs.flatMap eA),arr z.2.1 z.1 z.2.2.1 95 jI (z.2.2.2.map (·.tb)),qY mb (vE bo m.bx.length bc) (fun _=> .nilFunc) z.2.2.2]) (fun z=>(Vm.tasks m.aC).length-z.1) (0,none,0,[]) ?_ fun z hz K1 hK1=>?_
  ·exact⟨bQ _,rfl,rfl,aW⟩
  refine Jn ?_;obtain⟨q,to,tc,ts⟩:=z;obtain⟨y1,y2,y3,y4⟩:=hz;dsimp only at y1 y2 y3 y4 hK1⊢
  by_cases hq:q<(Vm.tasks m.aC).length
  ·obtain⟨hu1,hu2⟩:=aHU (m:=m) (k:=q) hq;have hgd:(Vm.tasks m.aC).getD q default=(Vm.tasks m.aC).getD q 0:=rfl;obtain⟨u,hu⟩:∃u,u=(Vm.tasks m.aC).getD q 0:=⟨_,rfl⟩;rw[←hu]at hgd hu1 hu2;have hul:=hloc u hu1;refine aD ?_;rw[hgd];refine b8 17 [aF xb (mG to q tc bo m.bx.length bc 0) 160] 18 ?_;refine bR [0,1,2,3,4,5,6,7,8,9,10] ?_;refine RunT.s4 11 (hy:=by exact Still.aDS (t:=0) rfl rfl) (h:=?_);refine lN 12 (aDh mb m u hu1 158 (.slice bo m.bx.length bc) hul) fun s hs=>?_;obtain⟨tb,ob,c⟩:=s;dsimp only at hs⊢;refine iF 13 fun b=>?_;(refine JT 14 ?_;refine aB.jN (a:=tb) (k:=?_);intro ao cap;refine JG ?_;refine Jn ?_);refine bR [15,16] ?_;refine gWl [17] ?_;refine b6 ?_;refine aD ?_;obtain⟨w1,w2⟩:=aAI (m:=m) hs tb ob;apply End.imp (fun w hm=>Mem.aH0 (t:=cC.born tb ob c) hm (tk) (cA));have hmp:ts.map (·.tb) ++[tb]=(ts ++[cC.born tb ob c]).map (·.tb):=aW;rw[hmp];refine End.bK hK1 (q+1,ao,cap,ts ++[cC.born tb ob c]) ?_ ?_
   ·refine⟨by dsimp only;omega,by simp[y2],?_,fun t ht=>?_⟩
    ·dsimp only;rw[Jq,y3,Jp hq,Jq];congr 1;simp only[fI,m9];rw[w2,hu,Jd,Je hq];rfl
    ·rcases dF.1 ht with ht|ht
     ·exact y4 t ht
     ·simp at ht;subst ht;exact w1
   ·dsimp only;omega
  ·obtain rfl:q=(Vm.tasks m.aC).length:=aA;refine aD ?_;obtain⟨B,hB⟩:∃B:kM,B=⟨xb,bo,bc,rs,to,tc,ts⟩:=⟨_,rfl⟩;refine End.aX B (he:=by rw[hB]) (ht:=by(subst hB;simp only[kM.mem,y2,z2];exact cA)) (hp:=?_) (hx:=by simp[iL,dU,iB,G7]);subst hB;exact⟨z2,z3,by rw[y3,kN (bS _)],y4⟩
end
end Vw
namespace Vm
open ImgM Ver Opt
section
variable{ν:Type}{V:Env ν}{M:aL}
end
structure Beg(r s:Tk×Ls):Prop where
 out:r.1.out<+:s.1.out
 len:r.2.oZ.length=s.2.oZ.length
 oZ:∀b,r.2.oZ.getD b []<+:s.2.oZ.getD b []
structure ZY(M:aL)(F G:List (List Int)):Prop where
 pre:∀b,b<M.boxes.length→F.getD b []<+:G.getD b []
section
variable{M:aL}{T:Nat→Int→Option Shape}{F G:List (List Int)}(hC:gN M T)(hF:Fed M F)(hl:ZY M F G)
include hC hF hl
end
structure aI7(M:aL)(F:List (List Int))(n:Nat)(r:Nat×(Tk×Ls)):Prop where
 steps:r.1≤n
 oZ:r.2.2.oZ.length=M.boxes.length
 qZ:r.2.2.qZ.length=M.boxes.length
 le:∀b,b<M.boxes.length→r.2.2.qZ.getD b 0≤(F.getD b []).length
 j7:∀b,b<M.boxes.length→Typed (M.boxes.getD b default).1 (r.2.2.oZ.getD b [])
 st:(r.2.1.st=3∧0≤r.2.1.bx∧r.2.1.bx.toNat<M.boxes.length∧r.2.2.qZ.getD r.2.1.bx.toNat 0=(F.getD r.2.1.bx.toNat []).length)∨(r.2.1.st=1∧r.1=n)∨r.2.1.st=4∨r.2.1.st=5
def nrm(t:Tk):Tk:=if t.st≤3 then{t with st:=1,bx:=0}else t
def snd(b:Nat)(l:List Ev):List Int:=l.filterMap fun e=>if e.1=2∧e.2.1=(b:Int)then some e.2.2 else none
def vV(b:Nat)(l:List Ev):List Int:=l.filterMap fun e=>if e.1=3∧e.2.1=(b:Int)then some e.2.2 else none
def HQ(ws:List (List Int))(e:Ev):List (List Int):=if e.1=2 then ws.set e.2.1.toNat (ws.getD e.2.1.toNat [] ++[e.2.2])else if e.1=3 then ws.set e.2.1.toNat (ws.getD e.2.1.toNat []).tail else ws
section
variable(M:aL)
def FZ(x:Int)(t:Tk):Tk×List Ev:=(nrm (vK M x t).1,(vK M x t).2)
def rN(t:Tk)(xs:List Int):Tk:=xs.foldl (fun t x=>(FZ M x t).1) t
def LB:Tk→List Int→List Ev
 |_,[]=>[]
 |t,x::xs=>(FZ M x t).2 ++LB (FZ M x t).1 xs
abbrev tK(t:Tk):Nat:=(cO M t).a.toNat
structure Can(cap:Nat→Nat)(t:Tk)(ws:List (List Int)):Prop where
 st:t.st=1
 send:(cO M t).op=26→(ws.getD (tK M t) []).length≠cap (tK M t)
 recv:(cO M t).op=27→(ws.getD (tK M t) []).length≠0
def ZU(t:Tk)(ws:List (List Int)):Int:=if(cO M t).op=27 then(ws.getD (tK M t) []).headD 0 else 0
inductive zD(cap:Nat→Nat)(T:List Tk):Nat→(Nat→List Int)→List (List Int)→Prop
 |nil:zD cap T 0 (fun _=>[]) (List.replicate M.boxes.length [])
 |step {n k:Nat} {xs:Nat→List Int} {ws:List (List Int)} (h:zD cap T n xs ws) (hk:k<T.length) (hc:Can M cap (rN M (T.getD k default) (xs k)) ws):
   zD cap T (n+1) (fun j=>if j=k then xs k ++[ZU M (rN M (T.getD k default) (xs k)) ws]else xs j) ((FZ M (ZU M (rN M (T.getD k default) (xs k)) ws) (rN M (T.getD k default) (xs k))).2.foldl HQ ws)
end
def IG(cap:Nat→Nat):Env (List (List Int)) where
 full ws b:=decide ((ws.getD b []).length=cap b)
 empty ws b:=decide ((ws.getD b []).length=0)
 put ws b v:=ws.set b (ws.getD b [] ++[v])
 take ws b:=((ws.getD b []).headD 0,ws.set b (ws.getD b []).tail)
 tell ws _:=ws
structure aI6(i:aT)(x:Int)(l:List Ev):Prop where
 ex:(i.op=26∧∃v,(∀b,snd b l=if i.a=(b:Int)then [v]else [])∧(∀b,vV b l=[])∧∀{ν:Type} (V:Env ν) (ht:∀s e,V.tell s e=s) s,l.foldl (oV V) s=V.put s i.a.toNat v)∨
  (i.op=27∧(∀b,snd b l=[])∧(∀b,vV b l=if i.a=(b:Int)then [x]else [])∧∀{ν:Type} (V:Env ν) (ht:∀s e,V.tell s e=s) s,l.foldl (oV V) s=(V.take s i.a.toNat).2)∨
  (i.op≠26∧i.op≠27∧(∀b,snd b l=[])∧(∀b,vV b l=[])∧∀{ν:Type} (V:Env ν) (ht:∀s e,V.tell s e=s) s,l.foldl (oV V) s=s)
structure aI5(i:aT)(x:Int)(l:List Ev):Prop where
 ex:(i.op=26∧∃v,(∀b,snd b l=if i.a=(b:Int)then [v]else [])∧(∀b,vV b l=[])∧∀ws,l.foldl HQ ws=ws.set i.a.toNat (ws.getD i.a.toNat [] ++[v]))∨
  (i.op=27∧(∀b,snd b l=[])∧(∀b,vV b l=if i.a=(b:Int)then [x]else [])∧∀ws,l.foldl HQ ws=ws.set i.a.toNat (ws.getD i.a.toNat []).tail)∨
  (i.op≠26∧i.op≠27∧(∀b,snd b l=[])∧(∀b,vV b l=[])∧∀ws,l.foldl HQ ws=ws)
structure aI8(M:aL)(T:List Tk)(s r:Nat→Nat):Prop where
 snd:∀{cap:Nat→Nat} {n:Nat} {xs:Nat→List Int} {ws:List (List Int)},zD M cap T n xs ws→∀k,k<T.length→∀b,k≠s b→snd b (LB M (T.getD k default) (xs k))=[]
 vV:∀{cap:Nat→Nat} {n:Nat} {xs:Nat→List Int} {ws:List (List Int)},zD M cap T n xs ws→∀k,k<T.length→∀b,k≠r b→vV b (LB M (T.getD k default) (xs k))=[]
 kG:∀{cap:Nat→Nat} {n:Nat} {xs:Nat→List Int} {ws:List (List Int)},zD M cap T n xs ws→∀k,k<T.length→(rN M (T.getD k default) (xs k)).st=1→((cO M (rN M (T.getD k default) (xs k))).op=26∨(cO M (rN M (T.getD k default) (xs k))).op=27)→0≤(cO M (rN M (T.getD k default) (xs k))).a∧tK M (rN M (T.getD k default) (xs k))<M.boxes.length
section
variable{M:aL}{T:List Tk}{s r:Nat→Nat}{cap:Nat→Nat}{n:Nat}{xs:Nat→List Int}{ws:List (List Int)}
variable{cap2:Nat→Nat}{m:Nat}{ys:Nat→List Int}{us:List (List Int)}
end
def Fin(R:Int→Prop)(t:Tk):Prop:=∀c∈t.cs,∀f∈c.fr,R (f.unit:Int)
section
variable{R:Int→Prop}
section
variable{x:Int}{M:aL}
end
end
structure WK(M:aL)(ws:List (List Int)):Prop where
 len:ws.length=M.boxes.length
 mE:∀b,∀v∈ws.getD b [],In64 v
 j7:∀b,b<M.boxes.length→Typed (M.boxes.getD b default).1 (ws.getD b [])
theorem head_mem{l:List Int}(h:l.length≠0):l.headD 0∈l:=by
 cases l with
 |nil=>exact absurd rfl h
 |cons a r=>exact gF
theorem aAL(M:aL)(cap:Nat→Nat):o9 (IG cap) M (WK M):=by
 refine⟨fun s b hK hb he=>?_,fun s b v hK hb _ hv ht=>?_,fun s e hK=>hK⟩
 ·have he':decide ((s.getD b []).length=0)=false:=he;rw[JY]at he';have hm:=head_mem he';refine⟨⟨by simp[IG,hK.len],fun j v hv=>?_,fun j hj h2 v hv=>?_⟩,hK.mE b _ hm,fun h2=>hK.j7 b hb h2 _ hm⟩
  ·have hv':v∈(s.set b (s.getD b []).tail).getD j []:=hv;rw[FC (by rw[hK.len];exact hb)]at hv'
   split at hv'
   ·exact hK.mE b v (List.mem_of_mem_tail hv')
   ·exact hK.mE j v hv'
  ·have hv':v∈(s.set b (s.getD b []).tail).getD j []:=hv;rw[FC (by rw[hK.len];exact hb)]at hv'
   split at hv'
   ·rename_i e;subst e;exact hK.j7 b hb h2 v (List.mem_of_mem_tail hv')
   ·exact hK.j7 j hj h2 v hv'
 ·refine⟨by simp[IG,hK.len],fun j w hw=>?_,fun j hj h2 w hw=>?_⟩
  ·have hw':w∈(s.set b (s.getD b [] ++[v])).getD j []:=hw;rw[FC (by rw[hK.len];exact hb)]at hw'
   split at hw'
   ·rcases dF.1 hw' with h|h
    ·exact hK.mE b w h
    ·simp at h;subst h;exact hv
   ·exact hK.mE j w hw'
  ·have hw':w∈(s.set b (s.getD b [] ++[v])).getD j []:=hw;rw[FC (by rw[hK.len];exact hb)]at hw'
   split at hw'
   ·rename_i e;subst e
    rcases dF.1 hw' with h|h
    ·exact hK.j7 b hb h2 w h
    ·simp at h;subst h;exact ht h2
   ·exact hK.j7 j hj h2 w hw'
theorem WK.nil(M:aL):WK M (List.replicate M.boxes.length []):=
 ⟨aW,(fun b v hv=>by rw[SO]at hv;cases hv),(fun b hb h2 v hv=>by rw[SO]at hv;cases hv)⟩
inductive Path(M:aL)(T:Nat→Int→Option Shape)(t0:Tk):List Int→Prop
 |nil:Path M T t0 []
 |step {xs:List Int} (h:Path M T t0 xs) (h1:(rN M t0 xs).st=1) (ho:∃ch,Ok M T (rN M t0 xs) ch) (x:Int):Path M T t0 (xs ++[x])
section
variable{M:aL}{T:Nat→Int→Option Shape}(hC:gN M T){L:List Nat}(hL:∀u∈L,u<M.aJ.length∧(bL M u).kind=4)
include hC hL
end
section
variable{M:aL}{T:Nat→Int→Option Shape}(hC:gN M T){u:Nat}(hu:u<M.aJ.length)
include hC hu
end
theorem aHV(M:aL):∀u∈tasks M,u<M.aJ.length∧(bL M u).kind=4:=fun u hu=>by
 unfold tasks at hu;rw[mA,sC,JV]at hu;exact hu
def KB(M:aL)(s:Bs):Prop:=WK M s.ws
theorem QK(M:aL)(k:Option Nat):o9 (cZ M k) M (KB M):=by
 have h0:=aAL M (nE M);refine⟨fun s b hK hb he=>h0.take s.ws b hK hb he,fun s b v hK hb hf hv ht=>h0.put s.ws b v hK hb hf hv ht,fun s e hK=>?_⟩
 cases k with
 |none=>exact hK
 |some k=>exact hK
structure Ma.Ok(M:aL)(T:Nat→Int→Option Shape)(c:Ma):Prop where
 oR:∀t∈c.ts,Good M T (KB M) (t,c.bs)
 out:∀t∈c.ts,t.out.length≤2*c.n
 log:c.bs.log.length≤4*c.n
 n:c.n≤20000
theorem Good.aIS{M:aL}{T:Nat→Int→Option Shape}{ν:Type}{K:ν→Prop}{t:Tk}{s s':ν}(h:Good M T K (t,s))(hs:K s'):Good M T K (t,s'):=⟨h.1,hs⟩
theorem Ma.Ok.init{M:aL}{T:Nat→Int→Option Shape}(hC:gN M T):(Ma.init M).Ok M T:=by
 refine⟨fun t ht=>?_,fun t ht=>?_,bQ _,bQ _⟩
 ·obtain⟨u,hu,rfl⟩:=eY.1 ht;obtain⟨h1,h2⟩:=aHV M u hu;exact⟨.inr (.inr ⟨show(1:Int)≤3 by decide,[0],CW hC h1 h2⟩),WK.nil M⟩
 ·obtain⟨u,hu,rfl⟩:=eY.1 ht;exact bQ _
section
variable{M:aL}{T:Nat→Int→Option Shape}
theorem SV{k:Option Nat}:∀(n:Nat) (r:Tk×Bs),(goN (cZ M k) M n r).2.1.out.length≤r.1.out.length+2*(goN (cZ M k) M n r).1∧(goN (cZ M k) M n r).2.2.log.length≤r.2.log.length+4*(goN (cZ M k) M n r).1
 |0,r=>by simp[goN]
 |n+1,r=>by
  have hsz:=XJ (M:=M) (V:=cZ M k) (sz:=fun s:Bs=>s.log.length) (fun v b x=>sE _) (fun v b=>sE _) (fun v x=>by
   cases k with
   |none=>exact sE _
   |some k=>show(v.log ++[(k,x)]).length≤v.log.length+1;simp) r
  have ho:=XH (V:=cZ M k) (M:=M) r;obtain⟨h1,h2⟩:=SV (k:=k) n (step (cZ M k) M r).2;unfold goN
  by_cases hs:(step (cZ M k) M r).1=true
  ·rw[if_pos hs];dsimp only at hsz⊢;omega
  ·rw[if_neg hs];have hn:(look (cZ M k) M r).1.st≠1:=fun h=>by rw[NM _ M h]at hs;exact hs rfl
   rw[NK _ M hn,xZ,(xY _ M r).1];dsimp only;omega
structure O6(M:aL)(T:Nat→Int→Option Shape)(n:Nat)(r:Tk×Bs)(p:(Int×Nat)×(Tk×Bs)):Prop where
 oR:Good M T (KB M) p.2
 out:p.2.1.out.length≤r.1.out.length+2*p.1.2
 log:p.2.2.log.length≤r.2.log.length+4*p.1.2
 n:n+p.1.2≤20000
theorem aE2(hC:gN M T){k:Option Nat}{n:Nat}{q:Int}{r:Tk×Bs}(hn:n≤20000)(h:Good M T (KB M) r):O6 M T n r (nJ (cZ M k) M n q r):=by
 unfold nJ
 by_cases h1:q<1∨10000<q
 ·rw[if_pos h1];exact⟨h,bS _,bS _,hn⟩
 rw[if_neg h1]
 by_cases h2:(look (cZ M k) M r).1.st≠1
 ·rw[if_pos h2];exact⟨AE h,by rw[(xY _ M r).1];exact bS _,by rw[xZ];exact bS _,hn⟩
 rw[if_neg h2];have hg:=SS hC (QK M k) (min q.toNat (20000-n)) (AE (V:=cZ M k) h);have hsz:=SV (M:=M) (k:=k) (min q.toNat (20000-n)) (look (cZ M k) M r);have hle:=SU (V:=cZ M k) (M:=M) (min q.toNat (20000-n)) (look (cZ M k) M r);rw[(xY _ M r).1,xZ]at hsz;generalize goN (cZ M k) M (min q.toNat (20000-n)) (look (cZ M k) M r)=g at *;have e:(if g.1=0 then((10:Int),0)else(0,g.1)).2=g.1:=by
  split
  ·rename_i h;exact h.symm
  ·rfl
 refine⟨hg,?_,?_,?_⟩
 ·dsimp only;rw[e];exact hsz.1
 ·dsimp only;rw[e];exact hsz.2
 ·dsimp only;rw[e];omega
theorem Ma.Ok.at_{c:Ma}(h:c.Ok M T){k:Nat}(hk:k<c.ts.length):c.ts.getD k default∈c.ts:=by
 rw[Jd,Je hk];exact hZ _
theorem Ma.Ok.put{c:Ma}(h:c.Ok M T){k:Nat}(hk:k<c.ts.length){p:(Int×Nat)×(Tk×Bs)}(hp:O6 M T c.n (c.at_ k) p):(⟨c.ts.set k p.2.1,p.2.2,c.n+p.1.2⟩:Ma).Ok M T:=by
 refine⟨fun t ht=>?_,fun t ht=>?_,?_,hp.n⟩
 ·rcases BR ht with ht|rfl
  ·exact(h.oR t ht).aIS hp.oR.2
  ·exact hp.oR
 ·rcases BR ht with ht|rfl
  ·have:=h.out t ht;dsimp only;omega
  ·have h1:=hp.out;have h2:=h.out _ (h.at_ hk);have h3:(c.at_ k).1.out.length≤2*c.n:=h2;dsimp only;omega
 ·have h1:=hp.log;have h2:=h.log;have h3:(c.at_ k).2.log.length≤4*c.n:=h2;dsimp only;omega
theorem Ma.Ok.pick(hC:gN M T){c:Ma}(h:c.Ok M T)(told:Bool)(p:Int×Int):(Vm.pick M told c p).2.Ok M T:=by
 unfold Vm.pick
 by_cases h1:p.1<0∨(c.ts.length:Int)≤p.1
 ·rw[if_pos h1];exact h
 ·rw[if_neg h1];have hk:p.1.toNat<c.ts.length:=aA;exact h.put hk (aE2 hC h.n (h.oR _ (h.at_ hk)))
theorem Ma.Ok.looked{c:Ma}(h:c.Ok M T):(c.looked M).Ok M T:=by
 refine⟨fun t ht=>?_,fun t ht=>?_,h.log,h.n⟩
 ·obtain⟨t0,h0,rfl⟩:=eY.1 ht;have:=AE (V:=cZ M none) (h.oR t0 h0);have e:look (cZ M none) M (t0,c.bs)=((look (cZ M none) M (t0,c.bs)).1,c.bs):=Prod.ext rfl (xZ _ M _);rw[e]at this;exact this
 ·obtain⟨t0,h0,rfl⟩:=eY.1 ht;rw[(xY _ M _).1];exact h.out t0 h0
end
end Vm
namespace Vw
open Go.RowKit Img
section
attribute [local irreducible] aE aG End aB Still aN aU RunT Fn aS
structure sF where
 xb:Nat
 mb:Nat
 to:Option Addr
 tc:Nat
 cW:List Nat
 p:m8
abbrev E0(m:ML)(p:m8):dK:=QG m.aC p none trivial
abbrev nH(m:ML)(x:sF)(ts:List cC)(e:eF)(n:Nat):List Chunk:=[aF x.xb (mG x.to x.cW.length x.tc x.p.bo x.p.bs.length x.p.bc n) 160,aF x.mb (lQ m) 26,arr x.to x.cW.length x.tc 95 jI x.cW,nV x.p e,qY x.mb (vE x.p.bo x.p.bs.length x.p.bc) (fun _=> .nilFunc) ts]
abbrev dC(ts:List cC)(e:eF)(n:Nat):Vm.Ma:=⟨ts.map cC.tk,e.abs,n⟩
structure lA(m:ML)(T:Nat→Int→Option Ver.Shape)(x:sF)(ts:List cC)(e:eF)(n:Nat):Prop where
 cW:ts.map (·.tb)=x.cW
 wf:∀t∈ts,t.Wf
 bx:o8 m.aC x.p e
 ok:(dC ts e n).Ok m.aC T
structure nA(m:ML)(ts0:List cC)(e:eF)(k:Nat)(ts:List cC):Prop where
 len:ts.length=ts0.length
 at_:∀j,j<ts0.length→(ts.getD j default).tb=(ts0.getD j default).tb∧(ts.getD j default).Wf∧(ts.getD j default).tk=if j<k then(Vm.look (Vm.cZ m.aC none) m.aC ((ts0.getD j default).tk,e.abs)).1 else(ts0.getD j default).tk
section
variable{m:ML}{T:Nat→Int→Option Ver.Shape}{x:sF}{ts ts0:List cC}{e:eF}{n k:Nat}
theorem NZ{l:List cC}{k:Nat}(hk:k<l.length):l.getD k default∈l:=by
 rw[Jd,Je hk];exact hZ hk
theorem nA.zero(h:lA m T x ts0 e n):nA m ts0 e 0 ts0:=⟨rfl,fun j hj=>⟨rfl,h.wf _ (NZ hj),by rw[if_neg aA]⟩⟩
theorem nA.next(h:lA m T x ts0 e n)(hl:nA m ts0 e k ts)(hk:k<ts0.length):nA m ts0 e (k+1) (ts.set k ((((ts.getD k default).sl (E0 m x.p) e).look m).lay (ts.getD k default).tb)):=by
 have hz:((ts.getD k default).sl (E0 m x.p) e).Wf:=(hl.at_ k hk).2.1.sl h.bx;refine⟨by simpa using hl.len,fun j hj=>?_⟩;have hg:∀t,(ts.set k t).getD j default=if k=j then t else ts.getD j default:=fun t=>by
  simp only[Jd,w8]
  by_cases hkj:k=j
  ·subst hkj;rw[if_pos rfl,if_pos rfl,if_pos (by rw[hl.len];exact hk)];rfl
  ·rw[if_neg hkj,if_neg hkj]
 rw[hg]
 by_cases hkj:k=j
 ·subst hkj;rw[if_pos rfl];have ha:=hl.at_ k hk;have ht:=ha.2.2;rw[if_neg aA]at ht;refine⟨ha.1,(hz.look m).lay _,?_⟩;rw[if_pos aA,←ht];exact congrArg (·.1) (hz.iV m)
 ·rw[if_neg hkj];obtain⟨a1,a2,a3⟩:=hl.at_ j hj;refine⟨a1,a2,?_⟩;rw[a3]
  by_cases hjk:j<k
  ·rw[if_pos hjk,if_pos aA]
  ·rw[if_neg hjk,if_neg aA]
theorem nA.cW(h:lA m T x ts0 e n)(hl:nA m ts0 e k ts):ts.map (·.tb)=x.cW:=by
 rw[←h.cW];refine pE (by simpa using hl.len) fun j h1 h2=>?_;simp only[Jf]at h1 h2;have:=(hl.at_ j h2).1;simp only[Jd,Je h1,Je h2,JZ]at this;simpa using this
theorem nA.done(h:lA m T x ts0 e n)(hl:nA m ts0 e ts0.length ts):lA m T x ts e n∧dC ts e n=(dC ts0 e n).looked m.aC:=by
 have e1:ts.map cC.tk=(ts0.map cC.tk).map fun t=>(Vm.look (Vm.cZ m.aC none) m.aC (t,e.abs)).1:=by
  refine pE (by simpa using hl.len) fun j h1 h2=>?_;simp only[Jf]at h1 h2;have:=(hl.at_ j h2).2.2;rw[if_pos h2]at this;simp only[Jd,Je h1,Je h2,JZ]at this;simpa using this
 have e2:dC ts e n=(dC ts0 e n).looked m.aC:=by unfold Vm.Ma.looked;rw[←e1]
 refine⟨⟨hl.cW h,fun t ht=>?_,h.bx,by rw[e2];exact h.ok.looked⟩,e2⟩;obtain⟨j,hj,rfl⟩:=pC ht;have:=(hl.at_ j (by rw[←hl.len];exact hj)).2.1;rwa [Jd,Je hj]at this
theorem lA.oR(h:lA m T x ts0 e n)(hl:nA m ts0 e k ts)(hk:k<ts0.length):Vm.Good m.aC T (Vm.KB m.aC) ((ts.getD k default).sl (E0 m x.p) e).two:=by
 have ht:=(hl.at_ k hk).2.2;rw[if_neg aA]at ht;show Vm.Good m.aC T (Vm.KB m.aC) ((ts.getD k default).tk,e.abs);rw[ht];exact h.ok.oR _ (eY.2 ⟨_,NZ hk,rfl⟩)
end
def qW(c:Vm.Ma)(k:Nat):List Nat:=(List.range k).filter (fun j=>decide ((c.ts.getD j default).st=1))
theorem aFA(c:Vm.Ma)(k:Nat):(qW c k).length≤k:=by
 unfold qW;have:=nS (fun j=>decide ((c.ts.getD j default).st=1)) (List.range k);simpa using this
theorem aFH(c:Vm.Ma)(k:Nat):qW c (k+1)=qW c k ++if(c.ts.getD k default).st=1 then [k]else []:=by
 unfold qW;rw[nT,qD];congr 1;simp only[l0,List.filter_nil]
 by_cases h:(c.ts.getD k default).st=1<;>simp only[h,decide_true,decide_false,if_true,if_false,BV]
set_option maxHeartbeats 2000000 in
theorem V7(m:ML){T:Nat→Int→Option Ver.Shape}(hC:Vm.gN m.aC T)(x:sF)(ts:List cC)(e:eF)(n:Nat)(h:lA m T x ts e n)(hn:ts.length≤30):
  Fn Tryz.prog 27 #[ptr x.xb] [md m,kB x.p] (nH m x ts e n) (σ:=List cC×Option Addr×Nat) (fun s=>lA m T x s.1 e n∧dC s.1 e n=(dC ts e n).looked m.aC)
   (fun s=> .slice s.2.1 ((dC ts e n).looked m.aC).ready.length s.2.2) (fun s=>arr s.2.1 ((dC ts e n).looked m.aC).ready.length s.2.2 3 rP ((dC ts e n).looked m.aC).ready::nH m x s.1 e n):=by
 obtain⟨C,hC'⟩:∃C,C=(dC ts e n).looked m.aC:=⟨_,rfl⟩;rw[←hC'];have htb:x.cW.length=ts.length:=by rw[←h.cW,Jf]
 have hCl:C.ts.length=ts.length:=by rw[hC'];simp[Vm.Ma.looked]
 have hFr:C.ready=qW C ts.length:=by unfold Vm.Ma.ready qW;rw[hCl]
 rw[hFr];clear hFr;refine JE [ptr x.xb] Tryz.func27 Tryz.ntmps27 fun w S=>?_;refine aD ?_;apply aG.imp (fun w hm=>hm.cU 3 rP);refine cK (σ:=Nat×List cC×Option Addr×Nat) (fun z=>z.1≤ts.length∧nA m ts e z.1 z.2.1) (fun z=>[(3, .slice z.2.2.1 (qW C z.1).length z.2.2.2),(9, .slice x.to x.cW.length x.tc),(10, .int .i64 x.cW.length),(11, .int .i64 z.1)]) (fun z=>aO w S::md m::kB x.p::arr z.2.2.1 (qW C z.1).length z.2.2.2 3 rP (qW C z.1)::nH m x z.2.1 e n) (fun z=>ts.length-z.1) (0,ts,none,0) ?_ fun z hz K1 hK1=>?_
 ·exact⟨bQ _,nA.zero h⟩
 refine Jn ?_;obtain⟨q,us,ao,ac⟩:=z;obtain⟨hq0,hl⟩:=hz;dsimp only at hq0 hl hK1⊢;have hrl:=aFA C q
 by_cases hq:q<ts.length
 ·have hsn:=aFH C q;obtain⟨t,ht⟩:∃t,t=us.getD q default:=⟨_,rfl⟩;have hz:=(hl.at_ q hq).2.1.sl (E:=E0 m x.p) h.bx;have hg:=h.oR hl hq;have hnx:=hl.next h hq;have hlu:q<us.length:=by rw[hl.len];exact hq
  rw[←ht]at hz hg hnx;have htbq:x.cW.getD q default=t.tb:=by
   rw[←hl.cW h,ht,Jd,Jd,JU,Je hlu];rfl
  have hCq:(C.ts.getD q default).st=(((t.sl (E0 m x.p) e).look m).st):=by
   have h1:=(hnx.at_ q hq).2.2;rw[if_pos aA]at h1;have e2:(us.set q ((((t.sl (E0 m x.p) e).look m)).lay t.tb)).getD q default=((t.sl (E0 m x.p) e).look m).lay t.tb:=by
    rw[Jd,JS hlu];rfl
   rw[e2]at h1;have h3:C.ts.getD q default=(Vm.look (Vm.cZ m.aC none) m.aC ((ts.getD q default).tk,e.abs)).1:=by
    rw[hC'];unfold Vm.Ma.looked;rw[Jd,JU];simp only[dC,JU,Je hq,pA,JZ,Jd]
   rw[h3,←h1];rfl
  apply aG.imp (fun w hm=>by have:=Mem.NY (k:=q) hm (tk) hlu;rw[←ht]at this;exact this);refine aD ?_;rw[htbq];refine aD ?_;(refine Jc ?_;refine aB.bA (spec:=LG (E:=E0 m x.p) ⟨t.tb,x.mb,m⟩ (t.sl (E0 m x.p) e) hC hz rfl hg) (r:=(fun w=>Reads.md (tk) (Reads.any (tk) (sK x.p) .nil))) (k:=?_);intro s hs;refine Jn ?_)
  by_cases h1:((t.sl (E0 m x.p) e).look m).st=1
  ·rw[if_pos (hCq.trans h1)]at hsn
   repeat(refine Jy ?_;try first|intro ao cap|intro b)
   apply End.imp (fun w hm=>Mem.G5 (told:=fun _=> .nilFunc) (t:=((t.sl (E0 m x.p) e).look m).lay t.tb) hm (tk) (cA) hlu);have hsl:(qW C (q+1)).length=(qW C q).length+1:=by rw[hsn];simp
   rw[←hsn,←hsl];refine End.bK hK1 (q+1,us.set q (((t.sl (E0 m x.p) e).look m).lay t.tb),ao,cap) ?_ ?_
   ·exact⟨by dsimp only;omega,hnx⟩
   ·dsimp only;omega
  ·rw[if_neg (fun h=>h1 (hCq.symm.trans h)),eS]at hsn;refine aD ?_;apply End.imp (fun w hm=>Mem.G5 (told:=fun _=> .nilFunc) (t:=((t.sl (E0 m x.p) e).look m).lay t.tb) hm (tk) (cA) hlu);rw[←hsn];refine End.bK hK1 (q+1,us.set q (((t.sl (E0 m x.p) e).look m).lay t.tb),ao,ac) ?_ ?_
   ·exact⟨by dsimp only;omega,hnx⟩
   ·dsimp only;omega
 ·obtain rfl:q=ts.length:=aA;obtain⟨d1,d2⟩:=hl.done h;refine aD ?_;refine End.aX ((us,ao,ac):List cC×Option Addr×Nat) (he:=by rfl) (hp:=⟨d1,d2.trans hC'.symm⟩) (hx:=by simp[iL,dU,vD,G7])
end
end Vw
end Go.Proofs.YtofckcabpchcmaaGreatDoor
