/- Package sema, walked: all that a task speaks of. -/
import Derived.Test.YtofckcabpchcmaaGreatDoorM24
set_option linter.unusedVariables false
set_option linter.unusedSimpArgs false
set_option linter.unusedSectionVars false
set_option maxRecDepth 100000
namespace Go.Proofs.YtofckcabpchcmaaGreatDoor
namespace Vw
open Go.RowKit Img
section
attribute [local irreducible] aE aB End aA Still aM aP RunT Fn aO
theorem LF{α:Type} [DecidableEq α]:∀{l m:List α},l.Nodup→(∀x∈l,x∈m)→l.length≤m.length
 |[],m,_,_=>bP _
 |a::l,m,hn,hs=>by
  obtain⟨h1,h2⟩:=xX.1 hn;have ha:=hs a gU;have h3:=LF (m:=m.erase a) h2 (fun x hx=>(List.mem_erase_of_ne (fun e=>h1 (by rw[←e];exact hx))).2 (hs x (iO _ hx)));rw[List.length_erase_of_mem ha]at h3;have:=List.length_pos_of_mem ha;simp only[JW];omega
def vE(x:cI)(i:Nat):List Value:=[eJ x i]
instance (x:cI):bF (vE x):=⟨fun _=>rfl,Nat.lt_succ_self 0,fun a u hu=>by simp[vE]at hu;subst hu;rfl⟩
def vA(h:List aF×List aF)(s:aF):List aF×List aF:=if s∈h.1 then h else(h.1 ++[s],h.2 ++[s])
theorem aEb(P:List Fr.Df)(n:Nat)(fU:List aF)(d:Fr.Df)(todo:List Fr.Df):Fr.nD P (n+1) fU (d::todo)=
  ((Fr.cT d.body).nF ++(Fr.nD P n ((Fr.cT d.body).calls.foldl vA (fU,[])).1 (todo ++((Fr.cT d.body).calls.foldl vA (fU,[])).2.filterMap (Fr.kP P))).1,
  (Fr.cT d.body).nE ++(Fr.nD P n ((Fr.cT d.body).calls.foldl vA (fU,[])).1 (todo ++((Fr.cT d.body).calls.foldl vA (fU,[])).2.filterMap (Fr.kP P))).2):=by
 rw[Fr.nD];rfl
theorem aEc(P:List Fr.Df)(n:Nat)(fU:List aF):Fr.nD P n fU []=([],[]):=by cases n<;>rfl
abbrev iR(x:cI)(i:Nat):Fr.Df:=(x.l.getD i default).df
structure DE(x:cI)(hl:List aF)(tl:List Nat):Prop where
 nd:hl.Nodup
 fU:∀s∈hl,Fr.callee (x.l.map DL.df) s
 todo:∀i∈tl,i<x.l.length∧(x.l.getD i default).kind≠1
theorem DE.len{x:cI}{hl:List aF}{tl:List Nat}(h:DE x hl tl):hl.length≤x.l.length:=by
 have:=LF h.nd (m:=(x.l.map DL.df).map (·.name)) (fun s hs=>by
  obtain⟨d,hd, -⟩:=h.fU s hs;obtain⟨h1,h2⟩:=Fr.yC hd;exact fD.2 ⟨d,h1,h2⟩)
 simpa using this
structure G2 where
 n:Nat
 A:dC
 ho:Option Addr
 hc:Nat
 hl:List aF
 to:Option Addr
 tc:Nat
 tl:List Nat
structure GZ where
 j:Nat
 ho:Option Addr
 hc:Nat
 hl:List aF
 to:Option Addr
 tc:Nat
 tl:List Nat
 new:List aF
abbrev w8:dC:=⟨none,0,[],none,0,[],none,0,[]⟩
theorem Mem.SV{w:World}{b:Nat}{L L':List Chunk}(h:Mem w L)(t:Take (aD b [.slice none 0 0, .slice none 0 0, .slice none 0 0] 269) L L'):Mem w (uM b w8 ++L'):=by
 have h1:=(((h.take t).bY 9 eW).bY 9 eW).bY 9 eW;exact h1.perm (uA (l₁:=[_,_,_]))
set_option maxHeartbeats 1000000 in
theorem aFL(cs:List Chunk)(x:cI)(h:nL cs x.o x.c x.l)(hck:mX (x.l.map DL.df)=true)(pb mb i0:Nat)(hi0:i0<x.l.length)(hk0:(x.l.getD i0 default).kind≠1):Fn Tryz.prog 137 #[ptr pb,eJ x i0] [bE cs,bN] (fO pb mb x (dL x x.l.length)) (σ:=dC)
  (fun v=>v.cl=[]∧v.co=none∧v.cc=0∧Fr.nD (x.l.map DL.df) (x.l.length+1) [] [iR x i0]=(v.sl,v.rl)∧v.sl.length≤100000∧v.rl.length≤100000) (fun v=> .agg #[.slice none 0 0, .slice v.so v.sl.length v.sc, .slice v.ro v.rl.length v.rc]) (fun v=>arr v.so v.sl.length v.sc 9 eW v.sl::arr v.ro v.rl.length v.rc 9 eW v.rl::fO pb mb x (dL x x.l.length)):=by
 have hck':=hck;unfold mX at hck';simp only[JX]at hck';obtain⟨⟨⟨⟨hsh, -⟩, -⟩, -⟩,hbd⟩:=hck';have hlen:=Fr.aFa hsh;have hkn:=Fr.aF8 hsh (fun d hd=>sL.1 hbd d hd);obtain⟨h30,hS⟩:=FX hsh;clear hsh hbd hck;obtain⟨T,hT⟩:∃T,T=Fr.nD (x.l.map DL.df) (x.l.length+1) [] [iR x i0]:=⟨_,rfl⟩;rw[←hT];refine JE [ptr pb,eJ x i0] Tryz.func137 Tryz.ntmps137 fun w S=>?_;refine Jn ?_
 repeat(refine Fm ?_;try intro b)
 obtain⟨tb,rfl⟩:∃x,x=b:=⟨_,rfl⟩;obtain⟨hb,rfl⟩:∃x,x=b:=⟨_,rfl⟩;obtain⟨ab,rfl⟩:∃x,x=b:=⟨_,rfl⟩;obtain⟨rb,rfl⟩:∃x,x=b:=⟨_,rfl⟩;apply aB.imp (fun w hm=>hm.mJ (b:=tb) (f:=vE x) tk [i0] (n:=1) (by simp[vE]) rfl (by unfold maxLen;omega));apply aB.imp (fun w hm=>hm.mJ (b:=hb) (f:=eW) tk ([]:List aF) (n:=0) (by simp) rfl (by unfold maxLen;omega));apply aB.imp (fun w hm=>Mem.SV (b:=ab) hm tk);refine Jn ?_;refine aB.only ((fun z:G2=>aI w S::bE cs::bN::aD rb [.slice none 0 0, .slice none 0 0, .slice none 0 0] 269::arr z.ho z.hl.length z.hc 9 eW z.hl::arr z.to z.tl.length z.tc 153 (vE x) z.tl::(uM ab z.A ++fO pb mb x (dL x x.l.length))) ⟨x.l.length+1,w8,some ⟨hb,0,none⟩,0,[],some ⟨tb,0,none⟩,1,[i0]⟩) (aK) ?_;apply aB.loop (σ:=G2) (fun z=>DE x z.hl z.tl∧z.n+z.hl.length=x.l.length+z.tl.length∧z.A.cl=[]∧z.A.co=none∧z.A.cc=0∧z.A.sl.length+2000*z.n≤2000*(x.l.length+1)∧z.A.rl.length+2000*z.n≤2000*(x.l.length+1)∧T=(z.A.sl ++(Fr.nD (x.l.map DL.df) z.n z.hl (z.tl.map (iR x))).1,z.A.rl ++(Fr.nD (x.l.map DL.df) z.n z.hl (z.tl.map (iR x))).2)) (fun z=>[(0,ptr pb),(4,ptr rb),(5,ptr ab),(6, .slice z.ho z.hl.length z.hc),(7, .slice z.to z.tl.length z.tc)]) (fun z:G2=>aI w S::bE cs::bN::aD rb [.slice none 0 0, .slice none 0 0, .slice none 0 0] 269::arr z.ho z.hl.length z.hc 9 eW z.hl::arr z.to z.tl.length z.tc 153 (vE x) z.tl::(uM ab z.A ++fO pb mb x (dL x x.l.length))) (fun z=>z.n) ⟨x.l.length+1,w8,some ⟨hb,0,none⟩,0,[],some ⟨tb,0,none⟩,1,[i0]⟩
 rotate_left
 exact sb;exact aK;intro z hz K hK;(refine Jn ?_)
 rotate_left
 ·exact⟨⟨by simp,by simp,fun i hi=>by rw[gD.1 hi];exact⟨hi0,hk0⟩⟩,rfl,rfl,rfl,rfl,by show 0+2000*(x.l.length+1)≤2000*(x.l.length+1);omega,by show 0+2000*(x.l.length+1)≤2000*(x.l.length+1);omega,hT⟩
 obtain⟨n,A,ho,hc,hl,to,tc,tl⟩:=z;obtain⟨hok,hn,ac,ac2,ac3,asl,arl,hR⟩:=hz;dsimp only at hok hn ac ac2 ac3 asl arl hR⊢;have hhl:=hok.len
 cases tl with
 |nil=>
  repeat(refine Fm ?_)
  exact End.eK A (he:=by rw[ac,ac2,ac3];rfl) (hp:=⟨ac,ac2,ac3,by rw[hR,qE,aEc];simp,by omega,by omega⟩)
 |cons i rest=>
  obtain⟨hi,hki⟩:=hok.todo i gU;obtain⟨m,rfl⟩:∃m,n=m+1:=⟨n-1,by simp only[JW]at hn;omega⟩;have hpos:0<(i::rest).length:=Nat.succ_pos _;have hsl:=hlen _ (lO (dQ hi)) hki;have hkc:=hkn _ (lO (dQ hi)) hki;have hSd:=(hS _ (dQ hi)).body hki;have hd:=h.at hi;rw[eG,aEb]at hR;rw[show(x.l.getD i default).df.body=aJ.bR (x.l.getD i default).body from rfl]at hsl hkc;rw[show(iR x i).body=aJ.bR (x.l.getD i default).body from rfl]at hR;obtain⟨d,de⟩:∃d,x.l.getD i default=d:=⟨_,rfl⟩;rw[de]at hki hsl hkc hSd hd hR;have hD:=hd.has;obtain⟨us,hus⟩:∃us,us=Fr.cT (aJ.bR d.body):=⟨_,rfl⟩;rw[←hus]at hsl hkc hR
  repeat(refine Fm ?_;try first|intro ao cap|intro b)
  obtain⟨ub,rfl⟩:∃x,x=b:=⟨_,rfl⟩;refine aE.imp (fun w hm=>Mem.SV (b:=ub) hm tk) ?_;refine Jn ?_;rw[show(i::rest).length-(0+1)=rest.length from rfl,show List.drop (0+1) (i::rest)=rest from rfl];refine FQ (aHC cs d.body ub _ _ 2 w8 hd.body hSd.2 hSd.1 (by rw[←hus];unfold dC.Fit;show 0+_≤_∧0+_≤_∧0+_≤_;omega)) ?_;intro v hv;refine Jn ?_;rw[←hus]at hv;obtain⟨v1,v2,v3⟩:=hv;rw[show w8.cl ++us.calls=us.calls from rfl]at v1;rw[show w8.sl ++us.nF=us.nF from rfl]at v2;rw[show w8.rl ++us.nE=us.nE from rfl]at v3;rw[←v1]at hkc hR hsl;rw[←v2]at hR hsl;rw[←v3]at hR hsl;clear hus v1 v2 v3
  repeat(refine Fm ?_)
  apply aB.draw 11 ([aD ab [.slice A.co A.cl.length A.cc, .slice A.so A.sl.length A.sc, .slice A.ro A.rl.length A.rc] 269,aD ub [.slice v.co v.cl.length v.cc, .slice v.so v.sl.length v.sc, .slice v.ro v.rl.length v.rc] 269]) (by kernel_rfl) 14 rfl;refine RunT.a7 0 (hQ:=bA) (h:=?_);refine RunT.a7 1 (hQ:=bA) (h:=?_);refine RunT.a7 2 (hQ:=bA) (h:=?_);refine RunT.a7 3 (hQ:=bA) (h:=?_);refine RunT.a7 5 (hQ:=bA) (h:=?_);refine RunT.a7 6 (hQ:=bA) (h:=?_);refine RunT.a7 7 (hQ:=bA) (h:=?_);refine RunT.a7 8 (hQ:=bA) (h:=?_);(refine JT 4 ?_;refine aA.wH (k:=?_);intro so' sc';refine JG ?_;refine Jn ?_);refine RunT.a7 10 (hQ:=bA) (h:=?_);(refine JT 9 ?_;refine aA.wH (k:=?_);intro ro' rc';refine JG ?_;refine Jn ?_);(refine JT 11 ?_;(refine Jw ?_);refine JG ?_);refine RunT.aG9 12 (hQ:=by(repeat(first|assumption|exact aO.body|apply aO.pX|apply aO.p7|apply aO.block))) (h:=?_);(refine JT 13 ?_;(refine Jw ?_);refine JG ?_);(apply RunT.done;kernel_rfl)
  repeat(refine Fm ?_)
  rw[show A.sl.length+v.sl.length=(A.sl ++v.sl).length by simp,show A.rl.length+v.rl.length=(A.rl ++v.rl).length by simp];have hP:∀s,(bC (dL x x.l.length) s).map (iR x)=Fr.kP (x.l.map DL.df) s:=fun s=>(MP h pb mb i0 hi0).ns s
  refine aB.only ((fun z:GZ=>aI w S::bE cs::bN::aD rb [.slice none 0 0, .slice none 0 0, .slice none 0 0] 269::arr z.ho z.hl.length z.hc 9 eW z.hl::arr z.to z.tl.length z.tc 153 (vE x) z.tl::arr v.co v.cl.length v.cc 9 eW v.cl::(uM ab ⟨A.co,A.cc,A.cl,so',sc',A.sl ++v.sl,ro',rc',A.rl ++v.rl⟩ ++fO pb mb x (dL x x.l.length))) ⟨0,ho,hc,hl,ao,cap,rest,[]⟩) (aK) ?_;apply aB.loop (σ:=GZ) (fun z=>z.j≤v.cl.length∧DE x z.hl z.tl∧v.cl.foldl vA (hl,[])=(v.cl.drop z.j).foldl vA (z.hl,z.new)∧z.tl.map (iR x)=rest.map (iR x) ++z.new.filterMap (Fr.kP (x.l.map DL.df))∧z.tl.length+hl.length=rest.length+z.hl.length) (fun z=>[(0,ptr pb),(4,ptr rb),(5,ptr ab),(6, .slice z.ho z.hl.length z.hc),(7, .slice z.to z.tl.length z.tc),(41, .slice v.co v.cl.length v.cc),(42, .int .i64 (v.cl.length:Int)),(43, .int .i64 (z.j:Int))]) (fun z:GZ=>aI w S::bE cs::bN::aD rb [.slice none 0 0, .slice none 0 0, .slice none 0 0] 269::arr z.ho z.hl.length z.hc 9 eW z.hl::arr z.to z.tl.length z.tc 153 (vE x) z.tl::arr v.co v.cl.length v.cc 9 eW v.cl::(uM ab ⟨A.co,A.cc,A.cl,so',sc',A.sl ++v.sl,ro',rc',A.rl ++v.rl⟩ ++fO pb mb x (dL x x.l.length))) (fun z=>v.cl.length-z.j) ⟨0,ho,hc,hl,ao,cap,rest,[]⟩
  rotate_left
  exact sb;exact aK;intro z hz K2 hK2;(refine Jn ?_)
  rotate_left
  ·exact⟨bP _,⟨hok.nd,hok.fU,fun i hi=>hok.todo i (iO _ hi)⟩,rfl,by simp,rfl⟩
  obtain⟨j,ho2,hc2,hl2,to2,tc2,tl2,new⟩:=z;obtain⟨hj,ok2,hfo,hmp,hln⟩:=hz;dsimp only at hj ok2 hfo hmp hln⊢;have hh2:=ok2.len;simp only[JW]at hn
  by_cases hlt:j<v.cl.length
  rotate_left
  ·repeat(refine Fm ?_)
   rw[lD (by omega),List.foldl_nil]at hfo;rw[hfo,←hmp]at hR;exact End.bK hK ⟨m,⟨A.co,A.cc,A.cl,so',sc',A.sl ++v.sl,ro',rc',A.rl ++v.rl⟩,ho2,hc2,hl2,to2,tc2,tl2⟩ ⟨ok2,by dsimp only;omega,ac,ac2,ac3,by simp only[Jl];omega,by simp only[Jl];omega,by rw[hR,Jt,Jt]⟩ (by dsimp only;omega)
  have hsm:=dQ hlt;rw[nR hlt,List.foldl_cons]at hfo;obtain⟨s,es⟩:∃s,v.cl.getD j default=s:=⟨_,rfl⟩;rw[es]at hsm hfo
  by_cases hin:s∈hl2
  ·have hin':decide (s∈hl2)=true:=decide_eq_true hin;rw[show vA (hl2,new) s=(hl2,new)from if_pos hin]at hfo
   repeat(refine Fm ?_)
   rw[es];refine FQ (F5 ho2 hc2 hl2 (by omega) s) ?_;intro u hu;refine Jn ?_
   repeat(refine Fm ?_)
   exact End.bK hK2 ⟨j+1,ho2,hc2,hl2,to2,tc2,tl2,new⟩ ⟨hlt,ok2,hfo,hmp,hln⟩ (by dsimp only;omega)
  ·have hin':decide (s∈hl2)=false:=decide_eq_false hin;rw[show vA (hl2,new) s=(hl2 ++[s],new ++[s])from if_neg hin]at hfo;obtain⟨d2,hd2,hk2⟩:=hkc s hsm;obtain⟨i2,hi2⟩:∃i2,bC (dL x x.l.length) s=some i2:=by
    have:=hP s;rw[hd2]at this
    cases hf:bC (dL x x.l.length) s with
    |none=>rw[hf]at this;cases this
    |some i2=>exact⟨i2,rfl⟩
   have he2:iR x i2=d2:=by have:=hP s;rw[hi2,hd2]at this;exact uB this
   have hil2:=FB x s _ _ hi2
   repeat(refine Fm ?_)
   rw[es];refine FQ (F5 ho2 hc2 hl2 (by omega) s) ?_;intro u hu;refine Jn ?_
   repeat(refine Fm ?_;try first|intro ao cap|intro b)
   rename_i a1 c1
   have hk1:(x.l.getD i2 default).kind≠1:=by
    have:(iR x i2).kind=2∨(iR x i2).kind=3:=by rw[he2];exact hk2
    intro h1;rcases this with h2|h2<;>exact absurd ((show(iR x i2).kind=1 from h1).symm.trans h2) (by decide)
   rw[show tl2.length+1=(tl2 ++[i2]).length by simp,show hl2.length+1=(hl2 ++[s]).length by simp];refine End.bK hK2 ⟨j+1,a1,c1,hl2 ++[s],ao,cap,tl2 ++[i2],new ++[s]⟩ ⟨hlt,⟨?_,?_,?_⟩,hfo,?_,?_⟩ (by dsimp only;omega)
   ·exact rH.2 ⟨ok2.nd,by simp,fun a ha b hb=>by rw[gD]at hb;exact fun h'=>hin (by rw[←hb,←h'];exact ha)⟩
   ·intro q hq;rcases dH.1 hq with hq|hq
    ·exact ok2.fU q hq
    ·rw[gD.1 hq];exact hkc s hsm
   ·intro q hq;rcases dH.1 hq with hq|hq
    ·exact ok2.todo q hq
    ·rw[gD.1 hq];exact⟨hil2,hk1⟩
   ·simp only[Jq,hmp,List.filterMap_append,Jt];simp[hd2,he2]
   ·simp only[Jl,jA];omega
end
abbrev MD(x:cI)(i:Nat):List aF×List aF:=Fr.nD (x.l.map DL.df) (x.l.length+1) [] [iR x i]
def lR(x:cI)(p:Nat→Bool)(k:Nat):Nat:=((List.range k).filter fun i=>decide ((x.l.getD i default).kind=4)&&p i).length
theorem HZ(x:cI)(p:Nat→Bool)(k:Nat):lR x p (k+1)=lR x p k+if(x.l.getD k default).kind=4∧p k=true then 1 else 0:=by
 unfold lR;rw[oJ,oH,Jl];congr 1
 by_cases h:(x.l.getD k default).kind=4∧p k=true
 ·rw[if_pos h];simp only[pJ,List.filter_nil];rw[if_pos (by rw[decide_eq_true h.1,h.2];rfl)];rfl
 ·rw[if_neg h];simp only[pJ,List.filter_nil];rw[if_neg (by rw[JX,JV];exact h)];rfl
theorem PF(x:cI)(p:Nat→Bool){j k:Nat}(h:j≤k):lR x p j≤lR x p k:=by
 induction k with
 |zero=>
  obtain rfl:j=0:=by omega
  exact cG _
 |succ k ih=>
  rcases Nat.lt_or_eq_of_le h with h|rfl
  ·have:=ih (by omega);rw[HZ];omega
  ·exact cG _
abbrev xG(x:cI)(b:aF)(i:Nat):Bool:=decide (b∈(MD x i).1)
abbrev xE(x:cI)(b:aF)(i:Nat):Bool:=decide (b∈(MD x i).2)
def B6(x:cI)(i:Nat):Prop:=lR x (xG x (x.l.getD i default).name) x.l.length≤1∧lR x (xE x (x.l.getD i default).name) x.l.length≤1
theorem aE5{α:Type} [Inhabited α](l:List α):(List.range l.length).map (fun i=>l.getD i default)=l:=by
 have:=zF l id;simpa using this
theorem PB(x:cI)(f:Fr.Df→Bool):lR x (fun i=>f (iR x i)) x.l.length=(((x.l.map DL.df).filter fun d=>decide (d.kind=4)).filter f).length:=by
 unfold lR;rw[List.filter_filter]
 conv=>rhs;rw[←aE5 x.l]
 rw[uC,xV,Jf];congr 1;refine List.filter_congr fun i _=>?_
 rw[Bool.and_comm];rfl
theorem TL(x:cI):Fr.zB (x.l.map DL.df)=true↔∀i,i<x.l.length→(x.l.getD i default).kind=1→B6 x i:=by
 have hc:∀i,(B6 x i↔(decide ((((x.l.map DL.df).filter fun d=>decide (d.kind=4)).filter fun t=>decide ((iR x i).name∈(Fr.nD (x.l.map DL.df) ((x.l.map DL.df).length+1) [] [t]).1)).length≤1)&&decide ((((x.l.map DL.df).filter fun d=>decide (d.kind=4)).filter fun t=>decide ((iR x i).name∈(Fr.nD (x.l.map DL.df) ((x.l.map DL.df).length+1) [] [t]).2)).length≤1))=true):=fun i=>by
  unfold B6;rw[←PB,←PB,JX,JV,JV,Jf];exact Iff.rfl
 unfold Fr.zB;rw[sL];constructor
 ·intro h i hi hk;exact(hc i).2 (h (iR x i) (lP.2 ⟨lO (dQ hi),decide_eq_true hk⟩))
 ·intro h d hd;obtain⟨h1,h2⟩:=lP.1 hd;obtain⟨e,he,rfl⟩:=fD.1 h1;obtain⟨i,hi,rfl⟩:=mS he;have e2:x.l[i]=x.l.getD i default:=by rw[Jd,Je hi];rfl
  rw[e2]at h2⊢;exact(hc i).1 (h i hi (of_decide_eq_true h2))
theorem aDI{s:aF}(h:Fr.named s=true):s≠[]:=fun e=>by
 subst e;unfold Fr.named at h;simp at h
theorem aF9{l:List DL}(h:Fr.shaped (l.map DL.df)=true):∀d∈l,d.name≠[]:=by
 unfold Fr.shaped at h;rw[JX]at h;obtain⟨c,hc⟩:=lN.1 h.2;clear h;generalize 0=c0 at hc
 induction l generalizing c0 with
 |nil=>simp
 |cons y l ih=>
  rw[eG,Fr.kW]at hc;obtain⟨c1,h1,hc⟩:=bO.1 hc;intro d hd;rcases eB.1 hd with rfl|hd
  ·rw[FC]at h1;obtain⟨c2, -,h1⟩:=bO.1 h1
   split at h1
   ·next hh=>exact aDI hh.2.2.1
   ·cases h1
  ·exact ih _ hc d hd
theorem HY(P:List Fr.Df):Fr.check P=(mX P&&Fr.zB P):=rfl
end Vw
section
open Go Go.RowKit
section
variable{P:Program} [eP P]{N:Nd}{E:Env}{L:List Chunk}
theorem Still.QL{x:Operand}{d:Option Tmp}{T ft ty e:TypeId}{pos:String}{aft:Array Edge}{g:Option (Nat×Bool)}{fs:List (Nat×TypeId)}{s' b' f off s2 b2:Nat}{z' z2:List Value}{cs:Array Value}{v:Value}(hx:ev E x=Option.some (.agg cs))(ht:aW P T=Option.some ⟨.struct fs,s',b',z'⟩)
  (hf:fs[f]?=Option.some (off,ft)) (hj:aW P ft=Option.some ⟨.slice e,s2,b2,z2⟩) (hv:cs[off]?=Option.some v):Still P N ⟨d, .field T x f,ty,pos,aft,g⟩ E L v:=fun A w hs _=>by
 obtain⟨l,h1,h2⟩:=(b7 ht).struct;rw[←h2,JU]at hf;have h3:=(b7 hj).slice
 cases hlf:l[f]? with
 |none=>rw[Array.getElem?_toList,hlf]at hf;cases hf
 |some fl=>
  rw[Array.getElem?_toList,hlf]at hf;simp only[a8,tY,wD]at hf;obtain⟨rfl,rfl⟩:=hf;simp[execOp,hs.ev hx,Instr.field,run_underlying h1,hlf,part,isAgg,run_underlying h3,asAgg,hv]
end
end
namespace Vw
open Go.RowKit Img
section
attribute [local irreducible] aE aB End aA Still aM aP RunT Fn aO
abbrev sC(v:dC):Value:= .agg #[.slice none 0 0, .slice v.so v.sl.length v.sc, .slice v.ro v.rl.length v.rc]
def YR(x:cI)(k:Nat)(T:List (aF×dC))(bs:List Chunk):Prop:=(∀s,s∉((List.range k).map fun i=>(x.l.getD i default).name)→bC T s=none)∧∀i,i<k→(x.l.getD i default).kind=4→∃v,bC T (x.l.getD i default).name=some v∧MD x i=(v.sl,v.rl)∧v.sl.length≤100000∧v.rl.length≤100000∧arr v.so v.sl.length v.sc 9 eW v.sl∈bs∧arr v.ro v.rl.length v.rc 9 eW v.rl∈bs
theorem BX:∀c∈([]:List Chunk),c.bB=true:=by simp
def tC(t:aF×aF×aF):List Value:=[sv t.1,sv t.2.1,sv t.2.2]
instance:bF tC:=⟨fun _=>rfl,by decide,fun a u hu=>by simp[tC]at hu;rcases hu with rfl|rfl|rfl<;>rfl⟩
abbrev G0:=Nat×Option Addr×Nat×List (aF×aF×aF)
structure G1 where
 j:Nat
 T:List (aF×dC)
 bs:List Chunk
set_option maxHeartbeats 1000000 in
theorem aDm(cs:List Chunk)(x:cI)(h:nL cs x.o x.c x.l):Fn Tryz.prog 97 #[.slice x.o x.l.length x.c] [bE cs,bN] [] (σ:=(Option Addr×Nat×Nat)×Int×Int) (fun r=>(r.2.1=0∧r.2.2=0∧Fr.check (x.l.map DL.df)=true)∨(r.2.1≠0∧Fr.check (x.l.map DL.df)=false)) (fun r=> .tuple #[.slice r.1.1 r.1.2.1 r.1.2.2, .agg #[.int .i64 r.2.1, .int .i64 r.2.2]]) (fun r=>[]):=by
 have ha:=h.arr;rw[HY];refine JE [.slice x.o x.l.length x.c] Tryz.func97 Tryz.ntmps97 fun w S=>?_;refine Jn ?_
 repeat(refine Fm ?_;try intro b)
 obtain⟨fb,rfl⟩:∃x,x=b:=⟨_,rfl⟩;refine FQ (aDH cs x h) ?_;intro r hr;refine Jn ?_;obtain⟨⟨pb,mb⟩,ns,e,ea⟩:=r;rcases hr with⟨he,hns,hck⟩|⟨he,hck⟩
 rotate_left
 ·have he':decide (e=0)=false:=decide_eq_false he
  repeat(refine Fm ?_;try intro b)
  exact End.nQ ((none,0,0),e,ea) (.inr ⟨he,by rw[hck];rfl⟩) rfl (hx:=BX)
 dsimp only at he hns;subst he hns;have hck':=hck;unfold mX at hck';simp only[JX]at hck';obtain⟨⟨⟨⟨hsh,hnd⟩, -⟩, -⟩, -⟩:=hck';have hnd:=of_decide_eq_true hnd;obtain⟨h30,hS⟩:=FX hsh;have hne:=aF9 hsh;rw[hck,sM];clear hsh;rw[uC,show((fun x=>x.name)∘DL.df)=DL.name from rfl,←zF x.l (·.name)]at hnd
 repeat(refine Fm ?_;try intro b)
 apply aE.op (by exact rfl);refine aA.oV (κ:=aF) sC (by exact rfl) fun um=>?_
 refine Jn ?_;apply aE.imp (fun w hm=>hm.eX)
 repeat(refine Fm ?_)
 refine aB.only ((fun z:G1=>aI w S::bE cs::bN::aD fb [.int .i64 0, .int .i64 0] 70::mp um sC z.T::aR z.bs::fO pb mb x (dL x x.l.length)) ⟨0,[],[]⟩) (aK) ?_;apply aB.loop (σ:=G1) (fun z=>z.j≤x.l.length∧YR x z.j z.T z.bs) (fun z=>[(0, .slice x.o x.l.length x.c),(3,ptr fb),(4,ptr pb),(6, .map (some um)),(27, .int .i64 (x.l.length:Int)),(28, .int .i64 (z.j:Int))]) (fun z:G1=>aI w S::bE cs::bN::aD fb [.int .i64 0, .int .i64 0] 70::mp um sC z.T::aR z.bs::fO pb mb x (dL x x.l.length)) (fun z=>x.l.length-z.j) ⟨0,[],[]⟩
 rotate_left
 exact sb;exact aK;intro z hz K hK;(refine Jn ?_)
 rotate_left
 ·exact⟨bP _,fun s _=>rfl,fun i hi=>absurd hi (wC i)⟩
 obtain⟨j,T,bs⟩:=z;obtain⟨hj,hT1,hT2⟩:=hz;dsimp only at hj hT1 hT2⊢
 by_cases hlt:j<x.l.length
 ·have hd:=(h.at hlt).has
  by_cases k4:(x.l.getD j default).kind=4
  ·repeat(refine Fm ?_)
   apply aB.draw 12 ([bE cs]) (by kernel_rfl) 12 rfl;refine JN 0 ?_;refine JN 1 ?_;refine JN 2 ?_;refine TH 3 ?_;refine JN 4 ?_;refine TH 5 ?_;refine JN 6 ?_;refine JN 7 ?_;refine JN 8 ?_;refine TH 9 ?_;(refine JT 10 ?_;refine aA.aZ (spec:=aFL cs x h hck pb mb j hlt (by rw[k4];decide)) (r:=fun w=>eZ) (k:=?_);intro v hv;refine JG ?_;refine Jn ?_);obtain⟨-, -, -,hv,hvs,hvr⟩:=hv;refine JT 11 ?_;refine aA.qS (g:=sC) (a:=v) (k:=?_);refine JG ?_;refine Jn ?_;rw[oW _ _ _ (hT1 _ fun hm=>E6 hnd hlt hm)];(apply RunT.done;kernel_rfl);apply End.imp (fun w hm=>hm.mA (cs:=bs ++[arr v.so v.sl.length v.sc 9 eW v.sl,arr v.ro v.rl.length v.rc 9 eW v.rl]) (ds:=[arr v.so v.sl.length v.sc 9 eW v.sl,arr v.ro v.rl.length v.rc 9 eW v.rl]) (es:=bs) tk (.cons tk (.cons tk .nil)) pH (by simp[dX]))
   repeat(refine Fm ?_)
   refine End.bK hK ⟨j+1,T ++[((x.l.getD j default).name,v)],bs ++[arr v.so v.sl.length v.sc 9 eW v.sl,arr v.ro v.rl.length v.rc 9 eW v.rl]⟩ ⟨hlt,fun s hs=>?_,fun i hi hk=>?_⟩ (by show x.l.length-(j+1)<x.l.length-j;omega)
   ·rw[oJ,Jq,dH,not_or]at hs;rw[yY,hT1 s hs.1,Option.none_or,if_neg (fun e=>hs.2 (by rw[←e];simp))]
   ·rcases vU.1 hi with hi|rfl
    ·obtain⟨u,u1,u2,u5,u6,u3,u4⟩:=hT2 i hi hk;exact⟨u,by rw[yY,u1];rfl,u2,u5,u6,rG _ u3,rG _ u4⟩
    ·exact⟨v,by rw[yY,hT1 _ (fun hm=>E6 hnd hlt hm),Option.none_or,if_pos rfl],hv,hvs,hvr,by simp,by simp⟩
  ·repeat(refine Fm ?_)
   refine End.bK hK ⟨j+1,T,bs⟩ ⟨hlt,fun s hs=>hT1 s (fun hm=>hs (by rw[oJ,Jq];exact rG _ hm)),fun i hi hk=>?_⟩ (by show x.l.length-(j+1)<x.l.length-j;omega);rcases vU.1 hi with hi|rfl
   ·exact hT2 i hi hk
   ·exact absurd hk k4
 obtain rfl:j=x.l.length:=by omega
 repeat(refine Fm ?_)
 apply aB.imp (fun w hm=>hm.bY 272 tC);clear hlt hj hK;refine aB.only ((fun z:G0=>[aI w S,bE cs,aD fb [.int .i64 0, .int .i64 0] 70,mp um sC T,aR bs,arr z.2.1 z.2.2.2.length z.2.2.1 272 tC z.2.2.2]) (0,none,0,[])) (aK) ?_;apply aB.loop (σ:=G0) (fun z=>z.1≤x.l.length∧z.2.2.2.length≤z.1∧∀i,i<z.1→(x.l.getD i default).kind=1→B6 x i) (fun z=>[(0, .slice x.o x.l.length x.c),(3,ptr fb),(6, .map (some um)),(8, .slice z.2.1 z.2.2.2.length z.2.2.1),(49, .slice x.o x.l.length x.c),(50, .int .i64 (x.l.length:Int)),(51, .int .i64 (z.1:Int))]) (fun z:G0=>[aI w S,bE cs,aD fb [.int .i64 0, .int .i64 0] 70,mp um sC T,aR bs,arr z.2.1 z.2.2.2.length z.2.2.1 272 tC z.2.2.2]) (fun z=>x.l.length-z.1) (0,none,0,[])
 rotate_left
 exact sb;exact aK;intro z hz K hK;(refine Jn ?_)
 rotate_left
 ·exact⟨bP _,cG _,fun i hi=>absurd hi (wC i)⟩
 obtain⟨j,oo',oc,ol⟩:=z;obtain⟨hj,hol,hoj⟩:=hz;dsimp only at hj hol hoj⊢
 by_cases hlt:j<x.l.length
 rotate_left
 ·repeat(refine Fm ?_)
  exact End.nQ ((oo',ol.length,oc),0,0) (.inl ⟨rfl,rfl,(TL x).2 fun i hi=>hoj i (by omega)⟩) rfl (hx:=BX)
 have hd:=(h.at hlt).has
 by_cases k1:(x.l.getD j default).kind=1
 rotate_left
 ·repeat(refine Fm ?_;try intro b)
  refine End.bK hK (j+1,oo',oc,ol) ⟨hlt,by dsimp only;omega,fun i hi hk=>?_⟩ (by dsimp only;omega);rcases vU.1 hi with hi|rfl
  ·exact hoj i hi hk
  ·exact absurd hk k1
 repeat(refine Fm ?_;try intro b)
 obtain⟨ob',rfl⟩:∃x,x=b:=⟨_,rfl⟩;obtain⟨db,rfl⟩:∃x,x=b:=⟨_,rfl⟩;have hbad:¬B6 x j→Fr.zB (x.l.map DL.df)=false:=fun hn=>by
  cases hb:Fr.zB (x.l.map DL.df)with
  |false=>rfl
  |true=>exact absurd ((TL x).1 hb j hlt k1) hn
 refine aB.only ((fun z:Nat×aF×aF=>[aI w S,bE cs,aD fb [.int .i64 0, .int .i64 0] 70,mp um sC T,aR bs,arr oo' ol.length oc 272 tC ol,aD db (jW (x.l.getD j default)) 145,aD ob' [sv (x.l.getD j default).name,sv z.2.1,sv z.2.2] 272]) (0,[],[])) (aK) ?_;apply aB.loop (σ:=Nat×aF×aF) (fun z=>z.1≤x.l.length∧(z.2.1=[]↔lR x (xG x (x.l.getD j default).name) z.1=0)∧(z.2.2=[]↔lR x (xE x (x.l.getD j default).name) z.1=0)∧lR x (xG x (x.l.getD j default).name) z.1≤1∧lR x (xE x (x.l.getD j default).name) z.1≤1) (fun z=>[(0, .slice x.o x.l.length x.c),(3,ptr fb),(6, .map (some um)),(8, .slice oo' ol.length oc),(9, .int .i64 (j:Int)),(10,ptr db),(11,ptr ob'),(49, .slice x.o x.l.length x.c),(50, .int .i64 (x.l.length:Int)),(51, .int .i64 (j:Int)),(62, .slice x.o x.l.length x.c),(63, .int .i64 (x.l.length:Int)),(64, .int .i64 (z.1:Int))]) (fun z:Nat×aF×aF=>[aI w S,bE cs,aD fb [.int .i64 0, .int .i64 0] 70,mp um sC T,aR bs,arr oo' ol.length oc 272 tC ol,aD db (jW (x.l.getD j default)) 145,aD ob' [sv (x.l.getD j default).name,sv z.2.1,sv z.2.2] 272]) (fun z=>x.l.length-z.1) (0,[],[])
 rotate_left
 exact sb;exact aK;intro z hz K3 hK3;(refine Jn ?_)
 rotate_left
 ·exact⟨bP _,⟨fun _=>rfl,fun _=>rfl⟩,⟨fun _=>rfl,fun _=>rfl⟩,by show lR x _ 0≤1;unfold lR;simp,by show lR x _ 0≤1;unfold lR;simp⟩
 obtain⟨k,wr,rd'⟩:=z;obtain⟨hk,hw0,hr0,hw1,hr1⟩:=hz;dsimp only at hk hw0 hr0 hw1 hr1⊢
 by_cases hkl:k<x.l.length
 rotate_left
 ·obtain rfl:k=x.l.length:=by omega
  repeat(refine Fm ?_;try intro b)
  (apply aE.op;exact rfl;refine aA.jL (a:=(((x.l.getD j default).name,wr,rd'):aF×aF×aF)) (k:=?_);intro ao cap;(refine Jn ?_))
  repeat(refine Fm ?_)
  rw[show ol.length+1=(ol ++[((x.l.getD j default).name,wr,rd')]).length by simp];refine End.bK hK (j+1,ao,cap,ol ++[((x.l.getD j default).name,wr,rd')]) ⟨hlt,by simp only[Jl,jA];omega,fun i hi hk=>?_⟩ (by dsimp only;omega);rcases vU.1 hi with hi|rfl
  ·exact hoj i hi hk
  ·exact⟨hw1,hr1⟩
 have hdk:=(h.at hkl).has;have cs1:=HZ x (xG x (x.l.getD j default).name) k;have cr1:=HZ x (xE x (x.l.getD j default).name) k
 by_cases k4:(x.l.getD k default).kind=4
 rotate_left
 ·rw[if_neg (fun h=>k4 h.1),Nat.add_zero]at cs1 cr1
  repeat(refine Fm ?_;try intro b)
  exact End.bK hK3 (k+1,wr,rd') ⟨hkl,by rw[cs1];exact hw0,by rw[cr1];exact hr0,by rw[cs1];exact hw1,by rw[cr1];exact hr1⟩ (by dsimp only;omega)
 obtain⟨v,hv1,hv2,hvs,hvr,hv3,hv4⟩:=hT2 k hkl k4;have hnk:=hne _ (dQ hkl);have hsd:xG x (x.l.getD j default).name k=decide ((x.l.getD j default).name∈v.sl):=by unfold xG;rw[hv2]
 have hrv:xE x (x.l.getD j default).name k=decide ((x.l.getD j default).name∈v.rl):=by unfold xE;rw[hv2]
 rw[hsd]at cs1;rw[hrv]at cr1;have ms:=PF x (xG x (x.l.getD j default).name) (show k+1≤x.l.length by omega);have mr:=PF x (xE x (x.l.getD j default).name) (show k+1≤x.l.length by omega)
 repeat(refine Fm ?_;try intro b)
 obtain⟨tb,rfl⟩:∃x,x=b:=⟨_,rfl⟩;apply aE.op (by exact rfl);refine aA.b8 (h:=Still.QL rfl rfl rfl rfl rfl) (k:=?_)
 repeat(refine Fm ?_)
 apply aE.op (by exact rfl);refine aA.b8 (h:=Still.QL rfl rfl rfl rfl rfl) (k:=?_)
 repeat(refine Fm ?_;try intro b)
 obtain⟨vb,rfl⟩:∃x,x=b:=⟨_,rfl⟩;refine aB.only ((fun z:Nat×aF×aF=>[aI w S,bE cs,aD fb [.int .i64 0, .int .i64 0] 70,mp um sC T,aR bs,arr oo' ol.length oc 272 tC ol,aD db (jW (x.l.getD j default)) 145,aD ob' [sv (x.l.getD j default).name,sv z.2.1,sv z.2.2] 272,aD tb (jW (x.l.getD k default)) 145,aD vb [.slice v.so v.sl.length v.sc, .pointer (some ⟨ob',0+1,none⟩), .slice v.ro v.rl.length v.rc, .pointer (some ⟨ob',0+2,none⟩)] 274]) (0,wr,rd')) (aK) ?_;apply aB.loop (σ:=Nat×aF×aF) (fun z=>(z.1=0∧z.2.1=wr∧z.2.2=rd')∨(z.1=1∧z.2.1=(if(x.l.getD j default).name∈v.sl then(x.l.getD k default).name else wr)∧z.2.2=rd'∧((x.l.getD j default).name∈v.sl→wr=[]))∨(z.1=2∧z.2.1=(if(x.l.getD j default).name∈v.sl then(x.l.getD k default).name else wr)∧z.2.2=(if(x.l.getD j default).name∈v.rl then(x.l.getD k default).name else rd')∧((x.l.getD j default).name∈v.sl→wr=[])∧((x.l.getD j default).name∈v.rl→rd'=[]))) (fun z=>[(0, .slice x.o x.l.length x.c),(3,ptr fb),(6, .map (some um)),(8, .slice oo' ol.length oc),(9, .int .i64 (j:Int)),(10,ptr db),(11,ptr ob'),(49, .slice x.o x.l.length x.c),(50, .int .i64 (x.l.length:Int)),(51, .int .i64 (j:Int)),(62, .slice x.o x.l.length x.c),(63, .int .i64 (x.l.length:Int)),(64, .int .i64 (k:Int)),(13,ptr tb),(85, .slice (some ⟨vb,0,none⟩) 2 2),(86, .int .i64 2),(87, .int .i64 (z.1:Int))]) (fun z:Nat×aF×aF=>[aI w S,bE cs,aD fb [.int .i64 0, .int .i64 0] 70,mp um sC T,aR bs,arr oo' ol.length oc 272 tC ol,aD db (jW (x.l.getD j default)) 145,aD ob' [sv (x.l.getD j default).name,sv z.2.1,sv z.2.2] 272,aD tb (jW (x.l.getD k default)) 145,aD vb [.slice v.so v.sl.length v.sc, .pointer (some ⟨ob',0+1,none⟩), .slice v.ro v.rl.length v.rc, .pointer (some ⟨ob',0+2,none⟩)] 274]) (fun z=>2-z.1) (0,wr,rd')
 rotate_left
 exact sb;exact aK;intro z hz K4 hK4;(refine Jn ?_)
 rotate_left
 ·exact .inl ⟨rfl,rfl,rfl⟩
 obtain⟨q,w2,r2⟩:=z;dsimp only at hz⊢;rcases hz with⟨rfl,rfl,rfl⟩|⟨rfl,rfl,rfl,e1⟩|⟨rfl,rfl,rfl,e1,e2⟩
 ·repeat(refine Fm ?_)
  apply aE.op (by exact rfl);refine aA.b8 (h:=Still.DI (i:=0) rfl rfl rfl rfl rfl (by omega)) (k:=?_)
  repeat(refine Fm ?_;try intro b)
  refine FQ (F5 v.so v.sc v.sl (by omega) (x.l.getD j default).name) ?_;intro u hu;refine Jn ?_
  by_cases hin:(x.l.getD j default).name∈v.sl
  ·have hin':decide ((x.l.getD j default).name∈v.sl)=true:=decide_eq_true hin
   by_cases hw:w2=[]
   ·have hw':decide (w2=[])=true:=decide_eq_true hw
    repeat(refine Fm ?_)
    exact End.bK hK4 (1,(x.l.getD k default).name,r2) (.inr (.inl ⟨rfl,(if_pos hin).symm,rfl,fun _=>hw⟩)) (by dsimp only;omega)
   ·have hw':decide (w2=[])=false:=decide_eq_false hw
    repeat(refine Fm ?_)
    refine End.nQ ((none,0,0),8,(j:Int)) (.inr ⟨show(8:Int)≠0 by decide,hbad fun ho=>?_⟩) rfl (hx:=BX);rw[if_pos ⟨k4,hin'⟩]at cs1;have h1:=ho.1;exact hw (hw0.2 (by omega))
  ·have hin':decide ((x.l.getD j default).name∈v.sl)=false:=decide_eq_false hin
   repeat(refine Fm ?_)
   exact End.bK hK4 (1,w2,r2) (.inr (.inl ⟨rfl,(if_neg hin).symm,rfl,fun h=>absurd h hin⟩)) (by dsimp only;omega)
 ·repeat(refine Fm ?_)
  apply aE.op (by exact rfl);refine aA.b8 (h:=Still.DI (i:=1) rfl rfl rfl rfl rfl (by omega)) (k:=?_)
  repeat(refine Fm ?_;try intro b)
  refine FQ (F5 v.ro v.rc v.rl (by omega) (x.l.getD j default).name) ?_;intro u hu;refine Jn ?_
  by_cases hin:(x.l.getD j default).name∈v.rl
  ·have hin':decide ((x.l.getD j default).name∈v.rl)=true:=decide_eq_true hin
   by_cases hw:r2=[]
   ·have hw':decide (r2=[])=true:=decide_eq_true hw
    repeat(refine Fm ?_)
    exact End.bK hK4 (2,(if(x.l.getD j default).name∈v.sl then(x.l.getD k default).name else wr),(x.l.getD k default).name) (.inr (.inr ⟨rfl,rfl,(if_pos hin).symm,e1,fun _=>hw⟩)) (by dsimp only;omega)
   ·have hw':decide (r2=[])=false:=decide_eq_false hw
    repeat(refine Fm ?_)
    refine End.nQ ((none,0,0),8,(j:Int)) (.inr ⟨show(8:Int)≠0 by decide,hbad fun ho=>?_⟩) rfl (hx:=BX);rw[if_pos ⟨k4,hin'⟩]at cr1;have h1:=ho.2;exact hw (hr0.2 (by omega))
  ·have hin':decide ((x.l.getD j default).name∈v.rl)=false:=decide_eq_false hin
   repeat(refine Fm ?_)
   exact End.bK hK4 (2,(if(x.l.getD j default).name∈v.sl then(x.l.getD k default).name else wr),r2) (.inr (.inr ⟨rfl,rfl,(if_neg hin).symm,e1,fun h=>absurd h hin⟩)) (by dsimp only;omega)
 ·repeat(refine Fm ?_)
  have key:∀{w:aF} {c c':Nat} {p:Prop} [Decidable p],(w=[]↔c=0)→c≤1→c'=c+(if(x.l.getD k default).kind=4∧decide p=true then 1 else 0)→(p→w=[])→((if p then(x.l.getD k default).name else w)=[]↔c'=0)∧c'≤1:=fun{w c c' p} _ h1 h2 h3 h4=>by
   by_cases hp:p
   ·rw[if_pos ⟨k4,decide_eq_true hp⟩]at h3;rw[if_pos hp];have:=h1.1 (h4 hp);exact⟨⟨fun h=>absurd h hnk,fun h=>by omega⟩,by omega⟩
   ·rw[if_neg (fun h=>hp (of_decide_eq_true h.2))]at h3;rw[if_neg hp,h3,Nat.add_zero];exact⟨h1,h2⟩
  obtain⟨a1,a2⟩:=key hw0 hw1 cs1 e1;obtain⟨a3,a4⟩:=key hr0 hr1 cr1 e2;exact End.bK hK3 (k+1,_,_) ⟨hkl,a1,a3,a2,a4⟩ (by dsimp only;omega)
theorem Z7(cs:List Chunk)(x:cI)(h:nL cs x.o x.c x.l):Fn Tryz.prog 54 #[.slice x.o x.l.length x.c] [bE cs,bN] [] (σ:=Int×Int) (fun r=>(r.1=0∧r.2=0∧Fr.check (x.l.map DL.df)=true)∨(r.1≠0∧Fr.check (x.l.map DL.df)=false)) (fun r=> .agg #[.int .i64 r.1, .int .i64 r.2]) (fun r=>[]):=by
 refine JE [.slice x.o x.l.length x.c] Tryz.func54 Tryz.ntmps54 fun w S=>?_;refine Jn ?_
 repeat(refine Fm ?_;try intro b)
 refine FQ (aDm cs x h) ?_;intro r hr;refine Jn ?_
 repeat(refine Fm ?_;try intro b)
 exact End.eK r.2 (he:=rfl) (hp:=hr) (hx:=BX)
end
end Vw
namespace Fr
open ImgM
mutual
def oX:Ex→Nat
 | .mk _ _ _ l=>1+oY l
def oY:List Ex→Nat
 |[]=>0
 |x::l=>oX x+oY l
end
mutual
def uU:St→Nat
 | .mk k _ x b e=>1+((if k=6 then 0 else oX x)+((if k=3∨k=4 then j7 b else 0)+(if k=3 then j7 e else 0)))
def j7:List St→Nat
 |[]=>0
 |x::l=>uU x+j7 l
end
mutual
theorem SW:∀(x:Ex) (d c c':Nat),iD d x c=some c'→c'=c+oX x
 | .mk k n s l,d,c,c',h=>by
  rw[iD]at h;obtain⟨c1,h1,h⟩:=bO.1 h;obtain⟨e1, -⟩:=y7 h1
  split at h
  ·have:=SX l _ _ _ h;rw[oX];omega
  ·cases h
theorem SX:∀(l:List Ex) (d c c':Nat),iW d l c=some c'→c'=c+oY l
 |[],d,c,c',h=>by rw[iW]at h;cases h;rw[oY];rfl
 |x::l,d,c,c',h=>by
  rw[iW]at h;obtain⟨c1,h1,h⟩:=bO.1 h;have a:=SW x _ _ _ h1;have b:=SX l _ _ _ h;rw[oY];omega
end
mutual
theorem aD1:∀(x:St) (d c c':Nat),jO d x c=some c'→c'=c+uU x
 | .mk k s x b e,d,c,c',h=>by
  rw[jO]at h;obtain⟨c1,h1,h⟩:=bO.1 h;obtain⟨e1, -⟩:=y7 h1
  split at h
  ·rw[uU]
   by_cases h6:k=6
   ·rw[if_pos h6]at h
    cases h
    rw[if_pos h6,if_neg (show¬(k=3∨k=4) by omega),if_neg (show¬k=3 by omega)];omega
   ·rw[if_neg h6]at h;obtain⟨c2,h2,h⟩:=bO.1 h;obtain⟨c3,h3,h⟩:=bO.1 h;have a:=SW x _ _ _ h2;have b':c3=c2+(if k=3∨k=4 then j7 b else 0):=by
     by_cases h34:k=3∨k=4
     ·rw[if_pos h34]at h3;rw[if_pos h34]
      split at h3
      ·cases h3
      ·exact E9 b _ _ _ h3
     ·rw[if_neg h34]at h3;rw[if_neg h34];cases h3;rfl
    have e':c'=c3+(if k=3 then j7 e else 0):=by
     by_cases h33:k=3
     ·rw[if_pos h33]at h;rw[if_pos h33]
      split at h
      ·cases h
      ·exact E9 e _ _ _ h
     ·rw[if_neg h33]at h;rw[if_neg h33];cases h;rfl
    rw[if_neg h6];omega
  ·cases h
theorem E9:∀(l:List St) (d c c':Nat),dZ d l c=some c'→c'=c+j7 l
 |[],d,c,c',h=>by rw[dZ]at h;cases h;rw[j7];rfl
 |x::l,d,c,c',h=>by
  rw[dZ]at h;obtain⟨c1,h1,h⟩:=bO.1 h;have a:=aD1 x _ _ _ h1;have b:=E9 l _ _ _ h;rw[j7];omega
end
theorem kS{α:Type}{c:Prop} [Decidable c]{p:α→Prop}{a b:α}(h1:c→p a)(h2:¬c→p b):p (if c then a else b):=by
 by_cases h:c
 ·rw[if_pos h];exact h1 h
 ·rw[if_neg h];exact h2 h
section
variable(P:List Df)(tk:Int)
mutual
theorem CZ:∀(x:Ex) (w:Wr),(cJ P tk x w).1.locals=w.locals∧(cJ P tk x w).1.blocks=w.blocks∧(cJ P tk x w).1.code.length=w.code.length+oX x
 | .mk k n s l,w=>by
  have h:=GR l w;rw[cJ,oX];generalize dN P tk l w=r at h⊢;obtain⟨w1,ts⟩:=r;dsimp only at h⊢;have key:∀y:Wr×Int,(∃op a n t,y=(w1.put op a n,t))→y.1.locals=w.locals∧y.1.blocks=w.blocks∧y.1.code.length=w.code.length+(1+oY l):=fun y hy=>by
   obtain⟨op,a,n,t,rfl⟩:=hy;exact⟨h.1,h.2.1,by simp only[Wr.put,Jl,jA,h.2.2];omega⟩
  refine key _ ?_
  repeat' (first|exact⟨_,_,_,_,rfl⟩|refine kS (p:=fun y=>∃op a n t,y=(w1.put op a n,t)) (fun _=>?_) (fun _=>?_))
theorem GR:∀(l:List Ex) (w:Wr),(dN P tk l w).1.locals=w.locals∧(dN P tk l w).1.blocks=w.blocks∧(dN P tk l w).1.code.length=w.code.length+oY l
 |[],w=>by rw[dN,oY];exact⟨rfl,rfl,rfl⟩
 |x::l,w=>by
  have a:=CZ x w;have b:=GR l (cJ P tk x w).1;rw[dN,oY];exact⟨b.1.trans a.1,b.2.1.trans a.2.1,by rw[b.2.2,a.2.2];omega⟩
end
end
theorem LD:∀{P:List Df},(P.map (·.name)).Nodup→∀{d:Df},d∈P→(P.find? fun e=>decide (e.name=d.name))=some d
 |[],_,d,hd=>by simp at hd
 |e::P,h,d,hd=>by
  rw[eG,xX]at h;rw[xW];rcases eB.1 hd with rfl|hd
  ·simp
  ·have:¬e.name=d.name:=fun he=>h.1 (by rw[he];exact lO hd)
   simp only[this,decide_false];exact LD h.2 hd
section
variable{P:List Df}(hn:(P.map (·.name)).Nodup)
include hn
theorem aD0(q:Df→Bool){s:aF}{d:Df}(h:kP P s=some d)(hq:q d=true):∃k,((P.filter q).findIdx? fun d=>decide (d.name=s))=some k∧(P.filter q)[k]?=some d:=by
 obtain⟨hm,rfl⟩:=yC h;have hm2:d∈P.filter q:=lP.2 ⟨hm,hq⟩;have hn2:((P.filter q).map (·.name)).Nodup:=(List.filter_sublist.map _).nodup hn;have hf:=LD hn2 hm2
 cases hx:(P.filter q).findIdx? fun e=>decide (e.name=d.name)with
 |none=>
  rw[List.findIdx?_eq_none_iff]at hx;have:=hx d hm2;simp at this
 |some k=>
  refine⟨k,rfl,?_⟩;obtain⟨hk,h1, -⟩:=DA.1 hx;rw[Je hk];have hg:=LD hn2 (fB hk);have h1':(P.filter q)[k].name=d.name:=of_decide_eq_true h1;rw[h1',hf]at hg;exact hg.symm
theorem W4{s:aF}{d:Df}(h:kP P s=some d)(hk:d.kind≠1):(P.filter fun d=>!decide (d.kind=1))[gC P s]?=some d∧((P.filter fun d=>!decide (d.kind=1)).findIdx? fun d=>decide (d.name=s))=some (gC P s):=by
 obtain⟨k,h1,h2⟩:=aD0 hn (fun d=>!decide (d.kind=1)) h (by rw[decide_eq_false hk];rfl);unfold gC;rw[h1];exact⟨h2,rfl⟩
end
theorem NJ{P:List Df}{t:Ty}(h:cS t=true):dE P t=t.kind:=by
 unfold dE;exact if_neg (by unfold cS at h;simpa using h)
theorem CT{P:List Df}(t:Ty):dE P (bare t)=dE P t:=by
 unfold bare
 by_cases h:cS t=true
 ·rw[if_pos h,NJ h];exact NJ h
 ·rw[if_neg h]
theorem WV{P:List Df}{t:Ty}(h:cS t=false):dE P t=10+(gC P t.gen:Int):=by
 unfold dE;exact if_pos (by unfold cS at h;simpa using h)
def kM(P:List Df)(lo:List Int):List (aF×Ty)→List (aF×Nat)→Prop
 |[],[]=>True
 |p::b,q::c=>p.1=q.1∧q.2<lo.length∧lo.getD q.2 0=dE P p.2∧kM P lo b c
 |_,_=>False
def cQ(P:List Df)(lo:List Int):Scope→List (List (aF×Nat))→Prop
 |[],[]=>True
 |b::B,c::C=>kM P lo b c∧cQ P lo B C
 |_,_=>False
section
variable{P:List Df}{lo:List Int}
theorem HF{α:Type}(p:aF×α)(b:List (aF×α))(s:aF):at_ (p::b) s=if p.1=s then some p.2 else at_ b s:=by
 unfold at_;rw[xW]
 by_cases h:p.1=s
 ·simp[h]
 ·simp[h]
theorem kM.DJ:∀{b:List (aF×Ty)} {c:List (aF×Nat)} {s:aF},kM P lo b c→(∀t,at_ b s=some t→∃k,at_ c s=some k∧k<lo.length∧lo.getD k 0=dE P t)∧(at_ b s=none→at_ c s=none)
 |[],[],s,_=>⟨fun t h=>absurd h (by simp[at_]),fun _=>rfl⟩
 |p::b,q::c,s,h=>by
  obtain⟨h1,h2,h3,h4⟩:=h;have ih:=kM.DJ (s:=s) h4;rw[HF,HF,←h1]
  by_cases hs:p.1=s
  ·rw[if_pos hs,if_pos hs];exact⟨fun t ht=>⟨q.2,rfl,h2,by rw[h3,uB ht]⟩,fun h=>absurd h (by simp)⟩
  ·rw[if_neg hs,if_neg hs];exact ih
 |[],_::_,s,h=>h.elim
 |_::_,[],s,h=>h.elim
theorem cQ.look:∀{B:Scope} {C:List (List (aF×Nat))} {s:aF} {t:Ty},cQ P lo B C→eL B s=some t→∃k,eL C s=some k∧k<lo.length∧lo.getD k 0=dE P t
 |[],[],s,t,_,h=>by cases h
 |b::B,c::C,s,t,h,ht=>by
  have a:=kM.DJ (s:=s) h.1;rw[eL]at ht⊢
  cases hb:at_ b s with
  |some u=>
   rw[hb]at ht;cases ht;obtain⟨k,h1,h2,h3⟩:=a.1 _ hb;exact⟨k,by rw[h1],h2,h3⟩
  |none=>
   rw[hb]at ht;rw[a.2 hb];exact cQ.look h.2 ht
 |[],_::_,s,t,h,_=>h.elim
 |_::_,[],s,t,h,_=>h.elim
theorem kM.mono(u:List Int):∀{b:List (aF×Ty)} {c:List (aF×Nat)},kM P lo b c→kM P (lo ++u) b c
 |[],[],_=>trivial
 |p::b,q::c,h=>⟨h.1,by rw[Jl];have:=h.2.1;omega,by
   have e:(lo ++u).getD q.2 0=lo.getD q.2 0:=by rw[Jd,Jd,rF h.2.1]
   rw[e];exact h.2.2.1,kM.mono u h.2.2.2⟩
 |[],_::_,h=>h.elim
 |_::_,[],h=>h.elim
theorem cQ.mono(u:List Int):∀{B:Scope} {C:List (List (aF×Nat))},cQ P lo B C→cQ P (lo ++u) B C
 |[],[],_=>trivial
 |_::_,_::_,h=>⟨kM.mono u h.1,cQ.mono u h.2⟩
 |[],_::_,h=>h.elim
 |_::_,[],h=>h.elim
theorem kM.snoc{s:aF}{k:Nat}{t:Ty}(hk:k<lo.length)(ht:lo.getD k 0=dE P t):∀{b:List (aF×Ty)} {c:List (aF×Nat)},kM P lo b c→kM P lo (b ++[(s,t)]) (c ++[(s,k)])
 |[],[],_=>⟨rfl,hk,ht,trivial⟩
 |p::b,q::c,h=>⟨h.1,h.2.1,h.2.2.1,kM.snoc hk ht h.2.2.2⟩
 |[],_::_,h=>h.elim
 |_::_,[],h=>h.elim
theorem cQ.len:∀{B:Scope} {C:List (List (aF×Nat))},cQ P lo B C→B.length=C.length
 |[],[],_=>rfl
 |_::_,_::_,h=>congrArg (· +1) (cQ.len h.2)
 |[],_::_,h=>h.elim
 |_::_,[],h=>h.elim
end
section
variable(P:List Df)(tk:Int)
theorem YD(k n:Int)(s:aF)(l:List Ex)(w:Wr):cJ P tk (.mk k n s l) w=(
  if k=1 then((dN P tk l w).1.put 1 0 n,1)
  else if k=2 then((dN P tk l w).1.put 2 n 0,2)
  else if k=3 then((dN P tk l w).1.put 3 ((dN P tk l w).1.look s) 0,(dN P tk l w).1.locals.getD ((dN P tk l w).1.look s) 0)
  else if k=4 then((dN P tk l w).1.put 6 0 0,1)
  else if k=5 then((dN P tk l w).1.put 7 0 0,2)
  else if 6≤k∧k≤18 then((dN P tk l w).1.put (8+k-6) 0 0,if k≤10 then 1 else 2)
  else if k=19 then((dN P tk l w).1.put 23 (gC P s) 0,p9 P s)
  else if k=20 then((dN P tk l w).1.put 27 (pQ P s) 0,p9 P s)
  else if k=22 then((dN P tk l w).1.put 29 (gC P s) 0,10+(gC P s:Int))
  else if k=21 then((dN P tk l w).1.put 31 0 0,tk)
  else if k=24 then((dN P tk l w).1.put 32 0 0,2)
  else((dN P tk l w).1.put 30 0 0,match (P.filter fun d=>!decide (d.kind=1))[((dN P tk l w).2.headD 0-10).toNat]? with
   |some d=>dE P d.type
   |none=>0)):=by rw[cJ];rfl
theorem YF(x:Ex)(l:List Ex)(w:Wr):dN P tk (x::l) w=((dN P tk l (cJ P tk x w).1).1,(cJ P tk x w).2::(dN P tk l (cJ P tk x w).1).2):=by rw[dN]
def GP(k:Int)(s:aF)(r:Wr×Int):Wr:=
 if k=1 then(r.1.lU s r.2).put 4 r.1.locals.length 0
 else if k=2 then r.1.put 4 (r.1.look s) 0
 else if k=5 then r.1.put 24 0 0
 else if k=7 then r.1.put 26 (pQ P s) 0
 else if k=8 then r.1.put 28 0 0
 else if k=9 then r.1.put 5 0 0
 else r.1
theorem YH(k:Int)(s:aF)(x:Ex)(b e:List St)(w:Wr):pA P tk (.mk k s x b e) w=(
  if k=3 then
   let v:=((eA P tk b ((cJ P tk x w).1.put 22 0 0).open_).close).put 21 0 0
   let u:=(eA P tk e (v.patch ((cJ P tk x w).1.code.length) v.code.length).open_).close
   u.patch (v.code.length-1) u.code.length
  else if k=4 then
   let v:=((eA P tk b ((cJ P tk x w).1.put 22 0 0).open_).close).put 21 w.code.length 0
   v.patch ((cJ P tk x w).1.code.length) v.code.length
  else if k=6 then w.put 25 0 0
  else GP P k s (cJ P tk x w)):=by
 have hl:∀(v:Wr) (op a n:Int),(v.put op a n).code.length-1=v.code.length:=fun v op a n=>by simp[Wr.put]
 rw[pA];simp only[hl];rfl
end
structure C9(P:List Df)(D:Df)(tk:Int):Prop where
 nd:(P.map (·.name)).Nodup
 nS:∀d∈P,iT P d=true
 mem:D∈P
 aS:D.kind=3→tk=dE P D.aS
section
variable{P:List Df}{D:Df}{tk:Int}(G:C9 P D tk)
include G
theorem GQ{B:Scope}(hB:kX P B):∀(x:Ex) (w:Wr) (d c c':Nat) (t:Ty),cQ P w.locals B w.blocks→iD d x c=some c'→b5 P D B x=some t→(cJ P tk x w).2=dE P t
 | .mk k n s l,w,d,c,c',t,hc,h,ht=>by
  have hk:=GR P tk l w;rw[iD]at h;obtain⟨c1, -,h⟩:=bO.1 h
  split at h
  ·next hh=>
   have hr:1≤k∧k≤24:=by
    unfold m8 at hh;simp only[JX,JV]at hh;exact⟨hh.1.1.1.1.1.1,hh.1.1.1.1.1.2⟩
   rw[YD];rw[b5]at ht
   by_cases h1:k=1
   ·rw[if_pos h1]at ht;cases ht;rw[if_pos h1];rfl
   rw[if_neg h1]at ht⊢
   by_cases h2:k=2
   ·rw[if_pos h2]at ht;cases ht;rw[if_pos h2];rfl
   rw[if_neg h2]at ht⊢
   by_cases h3:k=3
   ·rw[if_pos h3]at ht;rw[if_pos h3];obtain⟨q,q1,q2,q3⟩:=hc.look ht;show(dN P tk l w).1.locals.getD ((dN P tk l w).1.look s) 0=_;unfold Wr.look;rw[hk.1,hk.2.1,q1];exact q3
   rw[if_neg h3]at ht⊢
   by_cases h4:k=4
   ·rw[if_pos h4]at ht;obtain⟨_,_,rfl⟩:=dG.1 ht;rw[if_pos h4];rfl
   rw[if_neg h4]at ht⊢
   by_cases h5:k=5
   ·rw[if_pos h5]at ht;obtain⟨_,_,rfl⟩:=dG.1 ht;rw[if_pos h5];rfl
   rw[if_neg h5]at ht⊢
   by_cases h11:k=11∨k=12
   ·rw[if_pos h11]at ht;obtain⟨ts,_,ht⟩:=bO.1 ht;have:t=gJ:=by
     split at ht
     ·split at ht<;>cases ht;rfl
     ·cases ht
    rw[if_pos (by omega),this];show(if k≤10 then(1:Int)else 2)=2;rw[if_neg (by omega)]
   rw[if_neg h11]at ht
   by_cases h618:6≤k∧k≤18
   ·(repeat rw[if_neg (by omega)]at ht)
    obtain⟨_,_,rfl⟩:=dG.1 ht;rw[if_pos h618];show(if k≤10 then(1:Int)else 2)=_
    by_cases h10:k≤10
    ·rw[if_pos h10,if_neg (by omega)];rfl
    ·rw[if_neg h10,if_pos (by omega)];rfl
   rw[if_neg h618]
   by_cases h19:k=19
   ·rw[if_pos h19]at ht;obtain⟨e,he,ht⟩:=bO.1 ht;obtain⟨_,_,rfl⟩:=dG.1 ht;rw[if_pos h19,CT];show p9 P s=_;unfold p9;rw[(qO he).1]
   rw[if_neg h19]at ht⊢
   by_cases h20:k=20
   ·rw[if_pos h20]at ht;obtain⟨e,he,rfl⟩:=dG.1 ht;rw[if_pos h20,CT];show p9 P s=_;unfold p9;rw[(qO he).1]
   rw[if_neg h20]at ht⊢
   by_cases h21:k=21
   ·rw[if_pos h21]at ht;rw[if_neg (by omega),if_pos h21]
    split at ht
    ·next hg=>obtain⟨_,_,rfl⟩:=dG.1 ht;rw[CT];exact G.aS hg
    ·cases ht
   rw[if_neg h21]at ht
   by_cases h22:k=22
   ·rw[if_pos h22]at ht;obtain⟨e,_,ht⟩:=bO.1 ht;obtain⟨_,_,rfl⟩:=dG.1 ht;rw[if_pos h22];rfl
   rw[if_neg h22]at ht⊢;rw[if_neg h21]
   by_cases h23:k=23
   ·rw[if_pos h23]at ht;rw[if_neg (by omega)];obtain⟨ts,hts,ht⟩:=bO.1 ht
    split at ht
    ·next a b=>
     split at ht
     ·cases ht
     ·next hp=>
      obtain⟨e,he,ht⟩:=bO.1 ht
      split at ht<;>cases ht
      cases l with
      |nil=>cases hts
      |cons x r=>
       rw[kK]at hts;obtain⟨u,hu,hts⟩:=bO.1 hts;obtain⟨us,_,e'⟩:=dG.1 hts
       cases e'
       rw[iW]at h;obtain⟨c2,h1', -⟩:=bO.1 h;have ih:=GQ hB x w _ _ _ a hc h1' hu;obtain⟨d',hd'⟩:=FD (CS G.nS G.mem hB x a hu) (by simpa using hp);obtain⟨e1,e2⟩:=qO hd';rw[he]at e1;cases e1;obtain⟨g1, -⟩:=W4 G.nd he (by omega);have hh2:(dN P tk (x::r) w).2.headD 0=10+(gC P a.gen:Int):=by
        rw[dN];show(cJ P tk x w).2=_;rw[ih];exact WV (by simpa using hp)
       show(match (P.filter fun d=>!decide (d.kind=1))[((dN P tk (x::r) w).2.headD 0-10).toNat]? with
        |some d=>dE P d.type
        |none=>0)=_
       rw[hh2,show((10+(gC P a.gen:Int)-10).toNat)=gC P a.gen by omega,g1,CT]
    ·cases ht
   rw[if_neg h23]at ht;have h24:k=24:=by omega
   rw[if_pos h24]at ht;rw[if_pos h24];obtain⟨ts,_,ht⟩:=bO.1 ht;have:t=gJ:=by
    split at ht
    ·split at ht<;>cases ht;rfl
    ·cases ht
   rw[this];rfl
  ·cases h
termination_by x=>SizeOf.sizeOf x
end
def pD(w w':Wr)(n:Nat):Prop:=(∃u,w'.locals=w.locals ++u∧u.length≤n)∧w.code.length≤w'.code.length∧w'.code.length≤w.code.length+2*n
theorem pD.trans{a b c:Wr}{n m:Nat}(h:pD a b n)(g:pD b c m):pD a c (n+m):=by
 obtain⟨⟨u,h1,h2⟩,h3,h4⟩:=h;obtain⟨⟨v,g1,g2⟩,g3,g4⟩:=g;exact⟨⟨u ++v,by rw[g1,h1,Jt],by rw[Jl];omega⟩,by omega,by omega⟩
theorem cQ.tail{P:List Df}{lo:List Int}:∀{B:Scope} {C:List (List (aF×Nat))},cQ P lo B C→cQ P lo B.tail C.tail
 |[],[],_=>trivial
 |_::_,_::_,h=>h.2
 |[],_::_,h=>h.elim
 |_::_,[],h=>h.elim
section
variable{P:List Df}{D:Df}{tk:Int}
theorem aB7(x:Ex)(w:Wr):pD w (cJ P tk x w).1 (oX x):=by
 obtain⟨h1, -,h3⟩:=CZ P tk x w;exact⟨⟨[],by rw[h1,eH],bP _⟩,by omega,by omega⟩
theorem FA(x:Ex):1≤oX x:=by cases x;rw[oX];omega
theorem NO(hH:∀d∈P,iT P d=true)(hD:D∈P):∀{l:List St} {B B':Scope},kX P B→e8 P D B l=some B'→B'.tail=B.tail∧B'.length=B.length∧kX P B'
 |[],B,B',hB,h=>by rw[e8]at h;cases h;exact⟨rfl,rfl,hB⟩
 |x::l,B,B',hB,h=>by
  rw[e8]at h;obtain⟨B1,h1,h⟩:=bO.1 h;obtain⟨a1,a2⟩:=NN h1;obtain⟨b1,b2,b3⟩:=NO hH hD (GH hH hD hB h1) h;exact⟨b1.trans a1,b2.trans a2,b3⟩
end
section
variable{P:List Df}{D:Df}{tk:Int}(G:C9 P D tk)
include G
mutual
theorem N3:∀(x:St) (w:Wr) (B B':Scope) (d c c':Nat),kX P B→cQ P w.locals B w.blocks→jO d x c=some c'→mK P D B x=some B'→cQ P (pA P tk x w).locals B' (pA P tk x w).blocks∧pD w (pA P tk x w) (uU x)
 | .mk k s x b e,w,B,B',d,c,c',hB,hc,h,ht=>by
  obtain⟨p1,p2,p3⟩:=NL ht;rw[jO]at h;obtain⟨c1, -,h⟩:=bO.1 h
  split at h
  ·next hh=>
   have hr:1≤k∧k≤9:=by
    unfold s4 at hh;simp only[JX,JV]at hh;exact⟨hh.1.1,hh.1.2⟩
   obtain⟨hB1,hBn⟩:=NM ht;have gx:pD w (cJ P tk x w).1 (oX x):=aB7 x w;obtain⟨kx1,kx2,kx3⟩:=CZ P tk x w;rw[YH,uU]
   by_cases h6:k=6
   ·rw[if_neg (by omega),if_neg (by omega),if_pos h6,if_pos h6,hBn (by omega)];refine⟨hc,⟨[],by simp[Wr.put],bP _⟩,by simp[Wr.put],?_⟩;simp only[Wr.put,Jl,jA];omega
   simp only[if_neg h6]at h⊢;obtain⟨c2,h2,h⟩:=bO.1 h;obtain⟨c3,h3,h⟩:=bO.1 h;obtain⟨t,hty⟩:=p1 h6;have hcx:cQ P ((cJ P tk x w).1.put 22 0 0).open_.locals ([]::B) ((cJ P tk x w).1.put 22 0 0).open_.blocks:=⟨trivial,by show cQ P (cJ P tk x w).1.locals B (cJ P tk x w).1.blocks;rw[kx1,kx2];exact hc⟩;have body:∀(l:List St) (v:Wr) (c c':Nat),dZ (d+1) l c=some c'→(e8 P D ([]::B) l).isSome=true→cQ P v.locals B v.blocks→(∀(v:Wr) (B':Scope),cQ P v.locals ([]::B) v.blocks→e8 P D ([]::B) l=some B'→cQ P (eA P tk l v).locals B' (eA P tk l v).blocks∧pD v (eA P tk l v) (j7 l))→cQ P (eA P tk l v.open_).close.locals B (eA P tk l v.open_).close.blocks∧pD v (eA P tk l v.open_).close (j7 l):=fun l v c c' ho hs hv ih=>by
    obtain⟨B2,hB2⟩:=lN.1 hs;obtain⟨i1,i2⟩:=ih v.open_ B2 ⟨trivial,hv⟩ hB2;obtain⟨t1, -, -⟩:=NO G.nS G.mem (uW hB) hB2;refine⟨?_,i2⟩;have:=i1.tail;rw[t1]at this;exact this
   have gput:∀(v:Wr) (op a n:Int),cQ P v.locals B v.blocks→cQ P (v.put op a n).locals B (v.put op a n).blocks:=fun v op a n h=>h
   by_cases k3:k=3
   ·rw[if_pos k3,if_pos (show k=3∨k=4 by omega),if_pos k3,hBn (by omega)];rw[if_pos (show k=3∨k=4 by omega)]at h3;rw[if_pos k3]at h
    split at h3
    ·cases h3
    split at h
    ·cases h
    obtain⟨b1,b2⟩:=body b ((cJ P tk x w).1.put 22 0 0) _ _ h3 (p2 (by omega)) hcx.2 (fun v B2 hv hB2=>C2 b v ([]::B) B2 _ _ _ (uW hB) hv h3 hB2);obtain⟨v,hv⟩:∃v,v=((eA P tk b ((cJ P tk x w).1.put 22 0 0).open_).close).put 21 0 0:=⟨_,rfl⟩;have v1:cQ P v.locals B v.blocks:=by rw[hv];exact b1
    obtain⟨e1,e2⟩:=body e (v.patch ((cJ P tk x w).1.code.length) v.code.length) _ _ h (p3 k3) v1 (fun v B2 hv hB2=>C2 e v ([]::B) B2 _ _ _ (uW hB) hv h hB2);rw[←hv];refine⟨e1,?_⟩;obtain⟨⟨u1,a1,a2⟩,a3,a4⟩:=gx;obtain⟨⟨u2,f1,f2⟩,f3,f4⟩:=b2;obtain⟨⟨u3,g1,g2⟩,g3,g4⟩:=e2;have hvl:v.locals=(eA P tk b ((cJ P tk x w).1.put 22 0 0).open_).close.locals:=by rw[hv];rfl
    have hvc:v.code.length=(eA P tk b ((cJ P tk x w).1.put 22 0 0).open_).close.code.length+1:=by rw[hv];simp[Wr.put]
    have hp1:((cJ P tk x w).1.put 22 0 0).code.length=(cJ P tk x w).1.code.length+1:=by simp[Wr.put]
    have hpc:∀(v:Wr) (i j:Nat),(v.patch i j).code.length=v.code.length:=fun v i j=>by simp[Wr.patch]
    rw[hp1]at f3 f4;rw[hpc]at g3 g4;have hnp:=FA x;refine⟨⟨u1 ++(u2 ++u3),?_,by simp only[Jl];omega⟩,by rw[hpc];omega,by rw[hpc];omega⟩;show(eA P tk e _).close.locals=_;rw[g1];show v.locals ++u3=_;rw[hvl,f1];show(cJ P tk x w).1.locals ++u2 ++u3=_;rw[a1];simp[Jt]
   rw[if_neg k3]
   by_cases k4:k=4
   ·rw[if_pos k4,if_pos (show k=3∨k=4 by omega),if_neg k3,hBn (by omega)];rw[if_pos (show k=3∨k=4 by omega)]at h3
    split at h3
    ·cases h3
    obtain⟨b1,b2⟩:=body b ((cJ P tk x w).1.put 22 0 0) _ _ h3 (p2 (by omega)) hcx.2 (fun v B2 hv hB2=>C2 b v ([]::B) B2 _ _ _ (uW hB) hv h3 hB2);refine⟨b1,?_⟩;obtain⟨⟨u1,a1,a2⟩,a3,a4⟩:=gx;obtain⟨⟨u2,f1,f2⟩,f3,f4⟩:=b2;have hp1:∀(v:Wr) (op a n:Int),(v.put op a n).code.length=v.code.length+1:=fun v op a n=>by simp[Wr.put]
    have hpc:∀(v:Wr) (i j:Nat),(v.patch i j).code.length=v.code.length:=fun v i j=>by simp[Wr.patch]
    rw[hp1]at f3 f4;have hnp:=FA x;refine⟨⟨u1 ++u2,?_,by simp only[Jl];omega⟩,by rw[hpc,hp1];omega,by rw[hpc,hp1];omega⟩;show(eA P tk b _).close.locals=_;rw[f1];show(cJ P tk x w).1.locals ++u2=_;rw[a1];simp[Jt]
   rw[if_neg k4,if_neg (show¬(k=3∨k=4) by omega),if_neg k3];obtain⟨⟨u1,a1,a2⟩,a3,a4⟩:=gx;have hnp:=FA x;have hcw:cQ P (cJ P tk x w).1.locals B (cJ P tk x w).1.blocks:=hcx.2
   by_cases k1:k=1
   ·obtain⟨t',cb,r,ht',hno,e1,e2⟩:=hB1 k1;unfold GP;rw[if_pos k1];have hty2:=GQ G hB x w _ _ _ t' hc h2 ht';rw[e2];rw[e1]at hcw;refine⟨?_,⟨u1 ++[(cJ P tk x w).2],?_,by simp only[Jl,jA];omega⟩,?_,?_⟩
    ·show cQ P ((cJ P tk x w).1.locals ++[(cJ P tk x w).2]) _ ((cJ P tk x w).1.lU s (cJ P tk x w).2).blocks;unfold Wr.lU;dsimp only
     cases hbl:(cJ P tk x w).1.blocks with
     |nil=>rw[hbl]at hcw;exact hcw.elim
     |cons q C=>
      rw[hbl]at hcw;exact⟨kM.snoc (by simp) (by rw[Jd];simp[hty2]) (hcw.1.mono _),hcw.2.mono _⟩
    ·show(cJ P tk x w).1.locals ++_=_;rw[a1,Jt]
    ·simp only[Wr.put,Wr.lU,Jl,jA];omega
    ·simp only[Wr.put,Wr.lU,Jl,jA];omega
   rw[hBn k1];have key:∀y:Wr,(y=(cJ P tk x w).1∨∃op a n,y=(cJ P tk x w).1.put op a n)→cQ P y.locals B y.blocks∧pD w y (1+(oX x+(0+0))):=fun y hy=>by
    rcases hy with rfl|⟨op,a,n,rfl⟩
    ·exact⟨hcw,⟨u1,a1,by omega⟩,a3,by omega⟩
    ·exact⟨hcw,⟨u1,a1,by omega⟩,by simp only[Wr.put,Jl,jA];omega,by simp only[Wr.put,Jl,jA];omega⟩
   refine key _ ?_;unfold GP;rw[if_neg k1]
   repeat' (first|exact .inr ⟨_,_,_,rfl⟩|exact .inl rfl|refine kS (p:=fun y=>y=(cJ P tk x w).1∨∃op a n,y=(cJ P tk x w).1.put op a n) (fun _=>?_) (fun _=>?_))
  ·cases h
theorem C2:∀(l:List St) (w:Wr) (B B':Scope) (d c c':Nat),kX P B→cQ P w.locals B w.blocks→dZ d l c=some c'→e8 P D B l=some B'→cQ P (eA P tk l w).locals B' (eA P tk l w).blocks∧pD w (eA P tk l w) (j7 l)
 |[],w,B,B',d,c,c',hB,hc,h,ht=>by
  rw[e8]at ht;cases ht;rw[eA,j7];exact⟨hc,⟨[],by simp,cG _⟩,cG _,by omega⟩
 |x::l,w,B,B',d,c,c',hB,hc,h,ht=>by
  rw[dZ]at h;obtain⟨c1,h1,h⟩:=bO.1 h;rw[e8]at ht;obtain⟨B1,t1,ht⟩:=bO.1 ht;obtain⟨a1,a2⟩:=N3 x w B B1 _ _ _ hB hc h1 t1;obtain⟨b1,b2⟩:=C2 l (pA P tk x w) B1 B' _ _ _ (GH G.nS G.mem hB t1) a1 h ht;rw[eA,j7];exact⟨b1,a2.trans b2⟩
end
end
end Fr
section
open Go Go.RowKit
section
variable{κ:Type}{dκ:DecidableEq κ}{iκ:cA κ}{α:Type}{P:Program} [eP P]{N:Nd}{E:Env}{L L':List Chunk}{dst:Option Tmp}{ty:TypeId}{pos:String}{aft:Array Edge}{gu:Option (Nat×Bool)}{t kt et s1 b1 s2 b2 b ck:Nat}{z1 z2:List Value}{g:α→Value}{l:List (κ×α)}{bs:List Nat}
@[simp] theorem aHn : (mpr b g l bs ck).bB = false := aDB
theorem aDD{w:World}(h:(mpr b g l bs ck).holds w):(mp b g l).holds w:=by
 obtain⟨es,h1,h2, -,h4⟩:=BU.1 (BV.1 h);exact tA.2 ⟨es,ck,h1,h2,h4⟩
theorem Still.EP{x y:Operand}{k:κ}{kv:Value}{kd:cV}{z v:Value}(hx:ev E x=some (.map (some b)))(hy:ev E y=some kv)(ht:aW P t=some ⟨.map kt et,s1,b1,z1⟩)(hkt:aW P kt=some ⟨kd,s2,b2,z2⟩)
  (hz:(P.info? et).map (·.zero)=some (some z)) (hm:Take (mpr b g l bs ck) L L') (hk:kv=cA.kv k∧kd=cA.kd κ) (hv:((bC l k).map g).getD z=v):Still P N ⟨dst, .lookup t x y false,ty,pos,aft,gu⟩ E L v:=fun A w hS hM=>by
 obtain⟨rfl,rfl⟩:=hk;subst hv;have hz':(zeroValue et).run P w= .ok z w:=by
  cases hi:P.info? et with
  |none=>rw[hi]at hz;cases hz
  |some i=>rw[hi]at hz;simp at hz;simp[zeroValue,typeInfo,hi,hz]
 have h:=U9 (ok:=false) (k:=k) ht hkt z hz' (aDD (hM.has hm));simp only[execOp,hS.ev hx,hS.ev hy,Sem.run_bind,h,Result.andThen_ok,Sem.run_pure];rfl
end
end
namespace Vw
open Go.RowKit Img
section
attribute [local irreducible] aE aB End aA Still aM aP RunT Fn aO
def kH(l:List DL):List (aF×Nat):=((l.filter fun d=>decide (d.kind=1)).map (·.name)).zipIdx
def eT(l:List DL):List (aF×Nat):=((l.filter fun d=>!decide (d.kind=1)).map (·.name)).zipIdx
theorem E1(L:List aF)(s:aF):∀k,bC (L.zipIdx k) s=(L.findIdx? fun n=>decide (n=s)).map (· +k):=by
 induction L with
 |nil=>intro k;rfl
 |cons a L ih=>
  intro k;rw[List.zipIdx_cons,bC,List.findIdx?_cons,ih]
  by_cases h:a=s
  ·simp[h]
  ·rw[if_neg h,decide_eq_false h]
   cases List.findIdx? (fun n=>decide (n=s)) L with
   |none=>rfl
   |some n=>exact congrArg some (show n+(k+1)=n+1+k by omega)
theorem TC(o:Option Nat):(o.map (· +0)).getD 0=o.getD 0:=by cases o<;>rfl
theorem QI(l:List DL)(q:Fr.Df→Bool)(s:aF):(((l.map DL.df).filter q).findIdx? fun d=>decide (d.name=s))=((l.filter fun d=>q d.df).map (·.name)).findIdx? fun n=>decide (n=s):=by
 rw[xV,List.findIdx?_map,List.findIdx?_map];rfl
theorem GJ(l:List DL)(s:aF):(bC (eT l) s).getD 0=Fr.gC (l.map DL.df) s:=by
 unfold eT Fr.gC;rw[E1,QI];exact TC _
theorem O3(l:List DL)(s:aF):(bC (kH l) s).getD 0=Fr.pQ (l.map DL.df) s:=by
 unfold kH Fr.pQ;rw[E1,QI];exact TC _
abbrev gR(n:Nat):Value:= .int .i64 (n:Int)
theorem y6{o:Option Nat}:(o.map gR).getD (.int .i64 0)=gR (o.getD 0):=by cases o<;>rfl
theorem W3(l:List DL)(s:aF)(h:l.length≤30):Fr.gC (l.map DL.df) s≤30:=by
 unfold Fr.gC
 cases hf:List.findIdx? (fun d:Fr.Df=>decide (d.name=s)) (List.filter (fun d=>!decide (d.kind=1)) (l.map DL.df))with
 |none=>exact bP _
 |some k=>
  obtain⟨hk, -⟩:=DA.1 hf;have:=pG (fun d:Fr.Df=>!decide (d.kind=1)) (l.map DL.df);rw[Jf]at this;show k≤30;omega
structure GT where
 tb:Nat
 bm:Nat
 um:Nat
 dm:Nat
 x:cI
 bs:List Nat
 ck:Nat
abbrev GT.P(g:GT):List Fr.Df:=g.x.l.map DL.df
abbrev GT.R(cs:List Chunk)(g:GT):List Chunk:=[bE cs,mpr g.um gR (eT g.x.l) g.bs g.ck]
abbrev GT.m(g:GT):List Chunk:=[aD g.tb [.map (some g.bm), .map (some g.um), .map (some g.dm)] 152,mp g.bm gR (kH g.x.l),mp g.dm (eJ g.x) (dL g.x g.x.l.length)]
theorem aBY(tb:Nat)(t:Fr.Ty)(h:Fr.cS t=true)(P:List Fr.Df):Fn Tryz.prog 55 #[ptr tb,fQ t] [] [] (σ:=Unit) (fun _=>True) (fun _=> .int .i64 (Fr.dE P t)) (fun _=>[]):=by
 have h3:¬t.kind=3:=by unfold Fr.cS at h;simpa using h
 rw[Fr.NJ h];refine JE [ptr tb,fQ t] Tryz.func55 Tryz.ntmps55 fun w S=>?_;refine Jn ?_
 repeat(refine Fm ?_;try intro b)
 exact End.aH () (he:=rfl) (hp:=trivial)
theorem yH(cs:List Chunk)(g:GT)(h30:g.x.l.length≤30)(t:Fr.Ty):Fn Tryz.prog 55 #[ptr g.tb,fQ t] (g.R cs) g.m (σ:=Unit) (fun _=>True) (fun _=> .int .i64 (Fr.dE g.P t)) (fun _=>g.m):=by
 unfold Fr.dE;refine JE [ptr g.tb,fQ t] Tryz.func55 Tryz.ntmps55 fun w S=>?_;refine Jn ?_
 by_cases h3:t.kind=3
 ·rw[if_pos h3]
  repeat(refine Fm ?_;try intro b)
  refine aM.b8 (h:=Still.EP (v:=gR (Fr.gC g.P t.gen)) rfl rfl rfl rfl rfl tk ⟨rfl,rfl⟩ (by rw[y6,GJ])) (k:=?_);have hu:Fr.gC g.P t.gen≤30:=W3 g.x.l t.gen h30
  repeat(refine Fm ?_)
  exact End.aH () (he:=rfl) (hp:=trivial)
 ·rw[if_neg h3]
  repeat(refine Fm ?_;try intro b)
  exact End.aH () (he:=rfl) (hp:=trivial)
end
end Vw
end Go.Proofs.YtofckcabpchcmaaGreatDoor
