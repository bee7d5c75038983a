/- Package sema, walked: heads of definitions. -/
import Derived.Test.YtofckcabpchcmaaGreatDoorM23
set_option linter.unusedVariables false
set_option linter.unusedSimpArgs false
set_option linter.unusedSectionVars false
set_option maxRecDepth 100000
namespace Go.Proofs.YtofckcabpchcmaaGreatDoor
namespace Vw
open Go.RowKit Img
attribute [local irreducible] aE aB End aA Still aM aP RunT Fn aO
abbrev tB(p:Fr.Pm):aF×Int:=(p.name,1)
theorem LB(l:List Fr.Pm)(s:aF):bC (l.map tB) s=if s∈l.map (·.name)then some 1 else none:=by
 induction l with
 |nil=>rfl
 |cons p l ih=>
  rw[eG,eG,bC,ih]
  by_cases h:p.name=s
  ·simp[h]
  ·rw[if_neg h];simp only[eB,show(s=p.name)=False from propext ⟨fun h'=>h h'.symm,False.elim⟩,false_or]
theorem aCn{α:Type}(l:List (aF×α))(s:aF)(a:α):bC (iL l s a) s=some a:=by
 induction l with
 |nil=>simp[iL,bC]
 |cons p l ih=>
  obtain⟨q,b⟩:=p
  by_cases h:q=s
  ·simp[iL,bC,h]
  ·simp[iL,bC,h,ih]
abbrev B4(n:Int):Value:= .int .i64 n
def TX(s:SE):Prop:=(s.D.kind=2∨s.D.kind=3)→(s.D.params.map (·.name)).Nodup∧∀p∈s.D.params,Fr.iX s.P p.type=true
theorem aBf(P:List Fr.Df)(d:Fr.Df):Fr.iT P d=true↔((d.kind=2∨d.kind=3)→(d.params.map (·.name)).Nodup∧∀p∈d.params,Fr.iX P p.type=true)∧(d.kind=3→Fr.cS d.aS=true)∧(d.kind≠4→Fr.cS d.type=true):=by
 unfold Fr.iT;rw[show(d.params.all fun p=>Fr.iX P p.type)=decide (∀p∈d.params,Fr.iX P p.type=true) by rw[rI];simp];generalize Fr.cS d.aS=p2;generalize Fr.cS d.type=p3
 by_cases h2:d.kind=2<;>by_cases h3:d.kind=3<;>by_cases h4:d.kind=4<;>cases p2<;>cases p3<;>by_cases h5:(d.params.map (·.name)).Nodup<;>by_cases h6:∀p∈d.params,Fr.iX P p.type=true<;>simp[h2,h3,h4,h5,h6]<;>omega
theorem SE.Ok.iX{cs:List Chunk}{s:SE}(ok:SE.Ok cs s)(t:Fr.Ty):Fr.iX s.P t=(Fr.cS t||isKind s.x 3 (bC s.ns t.gen)):=by
 unfold Fr.iX
 cases hk:isKind s.x 3 (bC s.ns t.gen)with
 |false=>rw[ok.DY hk];rfl
 |true=>obtain⟨i, -, -, -,h⟩:=ok.DZ hk;rw[h];rfl
set_option maxHeartbeats 1000000 in
theorem aFH(cs:List Chunk)(s:SE)(ok:SE.Ok cs s)(h6:(s.x.l.getD s.di default).kind=2∨(s.x.l.getD s.di default).kind=3→(s.x.l.getD s.di default).params.length≤6):Fn Tryz.prog 160 #[ptr s.p,eJ s.x s.di] [bE cs,bN] (fO s.p s.mb s.x s.ns) (σ:=Int) (fun e=>e=0↔Fr.iT s.P s.D=true) (fun e=> .int .i64 e) (fun _=>fO s.p s.mb s.x s.ns):=by
 have hi:=ok.jX.at ok.di;have hiff:=aBf s.P s.D;have hpk:((s.D.kind=2∨s.D.kind=3)→(s.D.params.map (·.name)).Nodup∧∀p∈s.D.params,Fr.iX s.P p.type=true)↔TX s:=Iff.rfl;rw[hpk]at hiff;obtain⟨d,de⟩:∃d,s.x.l.getD s.di default=d:=⟨_,rfl⟩;have hDk:s.D.kind=d.kind:=by rw[←de];rfl
 have hDp:s.D.params=d.params:=by rw[←de];rfl
 rw[show s.D.aS=d.aS by rw[←de];rfl,show s.D.type=d.type by rw[←de];rfl,hDk]at hiff;rw[de]at hi h6;have hD:=hi.has;have hp:=hi.tD;refine JE [ptr s.p,eJ s.x s.di] Tryz.func160 Tryz.ntmps160 fun w S=>?_;refine Jn ?_
 repeat(refine Fm ?_)
 apply aE.op (by exact rfl);refine aA.oV (κ:=aF) B4 (by exact rfl) fun mb=>?_
 refine Jn ?_
 repeat(refine Fm ?_)
 refine PV (σ:=Unit) (fun _=>TX s) (fun _=>[(0,ptr s.p),(1,eJ s.x s.di),(4, .int .i64 0)]) (fun _=>aI w S::bE cs::bN::fO s.p s.mb s.x s.ns) ?_ ?_
 ·intro _ hps;refine Jn ?_
  by_cases k3:d.kind=3
  ·repeat(refine Fp ?_)
   refine FQ (uZ d.aS) ?_;intro u hu;refine Jn ?_;rcases qC (Fr.cS d.aS)with h1|h1
   ·have h1':(!Fr.cS d.aS)=false:=by rw[h1];rfl
    repeat(refine Fp ?_)
    refine FQ (uZ d.type) ?_;intro u hu;refine Jn ?_;rcases qC (Fr.cS d.type)with h2|h2
    ·repeat(refine Fp ?_)
     exact End.aH 0 (he:=rfl) (hp:=⟨fun _=>hiff.2 ⟨hps,fun _=>h1,fun _=>h2⟩,fun _=>rfl⟩)
    ·repeat(refine Fp ?_)
     exact End.aH 9 (he:=rfl) (hp:=⟨fun h=>absurd h (by decide),fun h=>by rw[(hiff.1 h).2.2 (by omega)]at h2;cases h2⟩)
   ·have h1':(!Fr.cS d.aS)=true:=by rw[h1];rfl
    repeat(refine Fp ?_)
    exact End.aH 9 (he:=rfl) (hp:=⟨fun h=>absurd h (by decide),fun h=>by rw[(hiff.1 h).2.1 k3]at h1;cases h1⟩)
  by_cases k4:d.kind=4
  ·repeat(refine Fp ?_)
   exact End.aH 0 (he:=rfl) (hp:=⟨fun _=>hiff.2 ⟨hps,fun h=>absurd h k3,fun h=>absurd k4 h⟩,fun _=>rfl⟩)
  ·repeat(refine Fp ?_)
   refine FQ (uZ d.type) ?_;intro u hu;refine Jn ?_;rcases qC (Fr.cS d.type)with h2|h2
   ·repeat(refine Fp ?_)
    exact End.aH 0 (he:=rfl) (hp:=⟨fun _=>hiff.2 ⟨hps,fun h=>absurd h k3,fun _=>h2⟩,fun _=>rfl⟩)
   ·repeat(refine Fp ?_)
    exact End.aH 9 (he:=rfl) (hp:=⟨fun h=>absurd h (by decide),fun h=>by rw[(hiff.1 h).2.2 k4]at h2;cases h2⟩)
 ·intro K' hK
  by_cases k23:d.kind=2∨d.kind=3
  rotate_left
  ·repeat(refine Fm ?_)
   refine End.some_ hK () ?_;exact fun h=>absurd (hDk▸h) k23
  have h6:=h6 k23;have hc:∀{A:Prop},(d.kind=2→A)→(d.kind=3→A)→A:=fun a b=>k23.elim a b
  refine hc (fun k2=>?_) (fun k3=>?_)
  all_goals
   repeat(refine Fm ?_)
   refine aB.only ((fun j=>aI w S::bE cs::bN::mp mb B4 ((d.params.take j).map tB)::fO s.p s.mb s.x s.ns) 0) (aK) ?_;apply aB.loop (σ:=Nat) (fun j=>j≤d.params.length∧((d.params.take j).map (·.name)).Nodup∧∀p∈d.params.take j,Fr.iX s.P p.type=true) (fun j=>[(0,ptr s.p),(1,eJ s.x s.di),(4, .int .i64 0),(5, .map (some mb)),(25, .slice d.po d.params.length d.pc),(26, .int .i64 (d.params.length:Int)),(27, .int .i64 (j:Int))]) (fun j=>aI w S::bE cs::bN::mp mb B4 ((d.params.take j).map tB)::fO s.p s.mb s.x s.ns) (fun j=>d.params.length-j) 0
   rotate_left
   exact sb;exact aK;intro j hj K hK2;(refine Jn ?_)
   rotate_left
   ·exact⟨bP _,by simp,by simp⟩
   obtain⟨hj,hnd,hok⟩:=hj
   by_cases hlt:j<d.params.length
   rotate_left
   ·have hje:d.params.take j=d.params:=pF (by omega);rw[hje]at hnd hok
    repeat(refine Fm ?_)
    refine End.some_ hK () ?_;exact fun _=>by rw[hDp];exact⟨hnd,hok⟩
   have hpj:=Has.elem hp hlt;have htk:=mI hlt
   by_cases hin:(d.params.getD j default).name∈(d.params.take j).map (·.name)
   ·have hm:bC ((d.params.take j).map tB) (d.params.getD j default).name=some 1:=by rw[LB,if_pos hin]
    repeat(refine Fm ?_;try intro b)
    apply aE.op (by exact rfl);refine aA.qS (g:=B4) (a:=2) (k:=?_);have hm2:=aCn ((d.params.take j).map tB) (d.params.getD j default).name 2
    repeat(refine Fm ?_)
    refine End.aH 7 (he:=rfl) (hp:=⟨fun h=>absurd h (by decide),fun h=>?_⟩);have hn:=((hiff.1 h).1 (hDk▸k23)).1;rw[hDp]at hn;have hn2:=((List.take_sublist (j+1) d.params).map (·.name)).nodup hn;rw[htk,Jq]at hn2;exact absurd rfl ((rH.1 hn2).2.2 _ hin _ (by simp))
   ·have hm:bC ((d.params.take j).map tB) (d.params.getD j default).name=none:=by rw[LB,if_neg hin]
    repeat(refine Fm ?_;try intro b)
    apply aE.op (by exact rfl);refine aA.qS (g:=B4) (a:=1) (k:=?_);rw[oW _ _ _ hm,show(d.params.take j).map tB ++[((d.params.getD j default).name,(1:Int))]=(d.params.take (j+1)).map tB by rw[htk,Jq];rfl];have hnd2:((d.params.take (j+1)).map (·.name)).Nodup:=by
     rw[htk,Jq];exact rH.2 ⟨hnd,by simp,fun a ha b hb=>by rw[List.map_singleton,gD]at hb;exact fun h=>hin (by rw[←hb,←h];exact ha)⟩
    have hm2:bC ((d.params.take (j+1)).map tB) (d.params.getD j default).name=some 1:=by rw[LB,if_pos (by rw[htk];simp)]
    repeat(refine Fm ?_)
    refine FQ (aFN s.p s.mb cs s.x ok.jX s.ns ok.lt (d.params.getD j default).type) ?_;intro e he;refine Jn ?_;rw[←ok.iX]at he
    by_cases h0:e=0
    ·subst h0
     repeat(refine Fm ?_)
     refine End.bK hK2 (j+1) ⟨hlt,hnd2,fun p hp'=>?_⟩ (by omega);rw[htk]at hp';rcases dH.1 hp' with hp'|hp'
     ·exact hok p hp'
     ·rw[gD.1 hp'];exact he.1 rfl
    ·have h0':decide (e=0)=false:=decide_eq_false h0
     repeat(refine Fm ?_)
     refine End.aH e (he:=rfl) (hp:=⟨fun h=>absurd h h0,fun h=>?_⟩);exact he.2 (((hiff.1 h).1 (hDk▸k23)).2 _ (by rw[hDp];exact dQ hlt))
abbrev tP(p:Fr.Pm):aF×Fr.Ty:=(p.name,Fr.bare p.type)
theorem LA{α β:Type}(f:β→aF×α)(l:List β)(s:aF)(h:s∉l.map fun p=>(f p).1):bC (l.map f) s=none:=by
 induction l with
 |nil=>rfl
 |cons p l ih=>
  simp only[eG,eB,not_or]at h;rw[eG,bC,if_neg (fun e=>h.1 e.symm),ih h.2]
theorem S8{P:List Fr.Df}{t:Fr.Ty}(h:Fr.iX P t=true):Fr.iX P (Fr.bare t)=true:=by
 cases hp:Fr.cS t with
 |true=>exact Fr.CD (Fr.CB hp)
 |false=>unfold Fr.bare;rw[if_neg (by rw[hp];simp)];exact h
abbrev jF(d:DL):List (aF×Fr.Ty):=if d.kind=4 then []else d.params.map tP
set_option maxHeartbeats 1000000 in
theorem aFD(cs:List Chunk)(s:SE)(ok:SE.Ok cs s)(hH:∀d∈s.P,Fr.iT s.P d=true)(hk:1≤(s.x.l.getD s.di default).kind∧(s.x.l.getD s.di default).kind≤4)(h6:(s.x.l.getD s.di default).kind=2∨(s.x.l.getD s.di default).kind=3→(s.x.l.getD s.di default).params.length≤6)
  (hS:(s.x.l.getD s.di default).kind≠1→(s.x.l.getD s.di default).body.length≤50∧aJ.gW (s.x.l.getD s.di default).body 2):Fn Tryz.prog 161 #[ptr s.p,eJ s.x s.di] [bE cs,bN] (fO s.p s.mb s.x s.ns) (σ:=Int) (fun e=>e=0↔Fr.mB s.P s.D=true) (fun e=> .int .i64 e) (fun _=>fO s.p s.mb s.x s.ns):=by
 have hi:=ok.jX.at ok.di;have hHD:=hH _ (SE.IC _ ok.di);obtain⟨d,de⟩:∃d,s.x.l.getD s.di default=d:=⟨_,rfl⟩;have hbd:Fr.mB s.P s.D=(decide (d.kind=1)||(Fr.e8 s.P s.D [[],jF d] (aJ.bR d.body)).isSome):=by
  unfold Fr.mB;rw[show s.D=d.df by rw[←de]];rfl
 rw[de]at hi hk h6 hS hHD;have hD:=hi.has;have hp:=hi.tD;refine JE [ptr s.p,eJ s.x s.di] Tryz.func161 Tryz.ntmps161 fun w S=>?_;refine Jn ?_
 by_cases k1:d.kind=1
 ·repeat(refine Fm ?_)
  exact End.aH 0 (he:=rfl) (hp:=⟨fun _=>by rw[hbd,decide_eq_true k1];rfl,fun _=>rfl⟩)
 rw[decide_eq_false k1,Bool.false_or]at hbd
 repeat(refine Fm ?_)
 apply aE.op (by exact rfl);refine aA.oV (κ:=aF) fQ (by exact rfl) fun mb=>?_
 refine Jn ?_
 repeat(refine Fm ?_;try intro b)
 obtain⟨qb,rfl⟩:∃x,x=b:=⟨_,rfl⟩;obtain⟨sb',rfl⟩:∃x,x=b:=⟨_,rfl⟩;apply aB.imp (fun w hm=>hm.mJ (b:=sb') (f:=nV) tk [⟨mb,[]⟩] (n:=1) (by simp[nV]) rfl (by unfold maxLen;omega));refine A9 (σ:=Unit) (fun _=>True) (fun _=>[(0,ptr s.p),(1,eJ s.x s.di),(5,ptr qb)]) (fun _=>aI w S::bE cs::bN::aD qb [ptr s.p,eJ s.x s.di, .slice (some ⟨sb',0,none⟩) 1 1] 316::arr (some ⟨sb',0,none⟩) 1 1 313 nV [⟨mb,[]⟩]::mp mb fQ (jF d)::fO s.p s.mb s.x s.ns) ?_ ?_
 ·intro _ _;refine Jn ?_;obtain⟨hbl,hbS⟩:=hS k1;have kn:SE.Kn cs ⟨qb,s.p,s.mb,s.x,s.ns,s.di,some ⟨sb',0,none⟩,1,[⟨mb,jF d⟩]⟩:=⟨⟨ok.jX,ok.di,ok.lt,ok.ns,by simp⟩,hH,fun b hb p hp=>by
   rw[show b=jF d from gD.1 hb]at hp;unfold jF at hp
   split at hp
   ·cases hp
   ·obtain⟨q,hq,rfl⟩:=fD.1 hp;exact S8 ((Fr.I6 hHD (by show d.kind=2∨d.kind=3;omega)).2 q hq)⟩
  apply aB.imp (fun w hm=>(hm.take (show Take (mp mb fQ (jF d)) _ _ from tk)).pack (cs:=[kC ⟨mb,jF d⟩]) (by simp[kC,j6]))
  repeat(refine Fm ?_)
  rw[HE (show List.flatMap nV [(⟨mb,[]⟩:Sc)]=List.flatMap nV [(⟨mb,jF d⟩:Sc)]from rfl) rfl];refine FQ (MM cs d.body (fun y _=>aFM cs y) ⟨qb,s.p,s.mb,s.x,s.ns,s.di,some ⟨sb',0,none⟩,1,[⟨mb,jF d⟩]⟩ _ _ kn hi.body hbS (by simp) hbl) ?_;intro r hr;refine Jn ?_
  repeat(refine Fm ?_)
  refine End.aH r.2 (he:=rfl) (hp:=?_);rw[hbd];obtain⟨-,⟨h3, -,h7⟩|⟨h3,h4⟩⟩:=hr
  ·exact⟨fun _=>h7,fun _=>h3⟩
  ·exact⟨fun h=>absurd h h3,fun h=>by rw[show Fr.e8 s.P s.D [[],jF d] (aJ.bR d.body)=none from h4]at h;cases h⟩
 ·intro K' hK
  by_cases k4:d.kind=4
  ·rw[show jF d=[]from if_pos k4]at hK
   repeat(refine Fm ?_)
   refine End.some_ hK () ?_;trivial
  ·have h6:=h6 (by omega);obtain⟨hnd, -⟩:=Fr.I6 hHD (by show d.kind=2∨d.kind=3;omega);rw[show jF d=d.params.map tP from if_neg k4]at hK
   repeat(refine Fm ?_)
   refine aB.only ((fun j=>aI w S::bE cs::bN::aD qb [ptr s.p,eJ s.x s.di, .slice (some ⟨sb',0,none⟩) 1 1] 316::arr (some ⟨sb',0,none⟩) 1 1 313 nV [⟨mb,[]⟩]::mp mb fQ ((d.params.take j).map tP)::fO s.p s.mb s.x s.ns) 0) (aK) ?_;apply aB.loop (σ:=Nat) (fun j=>j≤d.params.length) (fun j=>[(0,ptr s.p),(1,eJ s.x s.di),(5,ptr qb),(27, .slice d.po d.params.length d.pc),(28, .int .i64 (d.params.length:Int)),(29, .int .i64 (j:Int))]) (fun j=>aI w S::bE cs::bN::aD qb [ptr s.p,eJ s.x s.di, .slice (some ⟨sb',0,none⟩) 1 1] 316::arr (some ⟨sb',0,none⟩) 1 1 313 nV [⟨mb,[]⟩]::mp mb fQ ((d.params.take j).map tP)::fO s.p s.mb s.x s.ns) (fun j=>d.params.length-j) 0
   rotate_left
   exact sb;exact aK;intro j hj K hK2;(refine Jn ?_)
   rotate_left
   ·exact bP _
   by_cases hlt:j<d.params.length
   rotate_left
   ·have hje:d.params.take j=d.params:=pF (by omega);rw[hje]
    repeat(refine Fm ?_)
    refine End.some_ hK () ?_;trivial
   have hpj:=Has.elem hp hlt;have htk:=mI hlt;have hno:bC ((d.params.take j).map tP) (d.params.getD j default).name=none:=LA _ _ _ (fun h=>by
    have hn2:=((List.take_sublist (j+1) d.params).map (·.name)).nodup hnd;rw[htk,Jq]at hn2;exact absurd rfl ((rH.1 hn2).2.2 _ h _ (by simp)))
   repeat(refine Fm ?_;try intro b)
   obtain⟨pb,rfl⟩:∃x,x=b:=⟨_,rfl⟩;apply aB.draw 12 ([aD qb [ptr s.p,eJ s.x s.di, .slice (some ⟨sb',0,none⟩) 1 1] 316,arr (some ⟨sb',0,none⟩) 1 1 313 nV [⟨mb,[]⟩],aD pb (nB (d.params.getD j default)) 227]) (by kernel_rfl) 12 rfl;refine JN 0 ?_;refine JN 1 ?_;refine JN 2 ?_;refine JN 3 ?_;refine TH 4 ?_ (hy:=by(apply Still.at_;exact rfl;exact rfl;exact Jr;exact rfl;exact rfl;exact rfl;exact BN;omega));refine JN 5 ?_;refine JN 6 ?_;refine JN 7 ?_;refine JN 8 ?_;refine JN 9 ?_;(refine JT 10 ?_;refine aA.aZ (spec:=zN (d.params.getD j default).type) (r:=fun w=>eZ) (k:=?_);intro u hu;refine JG ?_;refine Jn ?_);refine JT 11 ?_;refine aA.qS (g:=fQ) (a:=Fr.bare (d.params.getD j default).type) (k:=?_);refine JG ?_;refine Jn ?_;rw[oW _ _ _ hno,show(d.params.take j).map tP ++[((d.params.getD j default).name,Fr.bare (d.params.getD j default).type)]=(d.params.take (j+1)).map tP by rw[htk,Jq];rfl];(apply RunT.done;kernel_rfl)
   repeat(refine Fm ?_)
   exact End.bK hK2 (j+1) hlt (by omega)
end Vw
section
open Go Go.RowKit
section
variable{P:Program} [eP P]{Q:Exit→Act→World→Prop}{N:Nd}{E:Env}{L F:List Chunk}{dst:Option Tmp}{ty:TypeId}{pos:String}{aft:Array Edge}{g:Option (Nat×Bool)}
theorem Still.DI{t e:TypeId}{x ix:Operand}{k:IntKind}{j:Int}{i b off n c s' b' s2 b2:Nat}{z' z2:List Value}{d2:cV}(hx:ev E x=some (.slice (some ⟨b,off,none⟩) n c))(hi:ev E ix=some (.int k j))
  (ht:aW P t=some ⟨.slice e,s',b',z'⟩) (he:aW P e=some ⟨d2,s2,b2,z2⟩) (hj:j=(i:Int)) (hlt:i<n):Still P N ⟨dst, .indexAddr t x ix,ty,pos,aft,g⟩ E L (.pointer (some ⟨b,off+i*s2,none⟩)):=fun A w hS hM=>by
 subst hj;have h0:(0:Int)≤(i:Int)∧(i:Int)<(n:Int):=by omega
 have hz:(sizeOf e).run P w= .ok s2 w:=(b7 he).size w;simp[execOp,hS.ev hx,hS.ev hi,Instr.indexAt,asIntOf,run_underlying (b7 ht).slice,h0,hz,Addr.sS,hlt]
theorem aA.fM{σ:Type}{x:Operand}{args:List Operand}{dW:Array TypeId}{f:FuncId}{vs fst:List Value}{R pre:List Chunk}{post:σ→Prop}{val:σ→Value}{mem:σ→List Chunk}{C:Env→List Chunk→Prop}
  (spec:Fn P f (fst ++vs).toArray R pre post val mem) (k:∀s,post s→C (cD dst (val s) E) (mem s ++F)) (hx:ev E x=some (.func (.func f) fst.toArray #[]):=by exact rfl) (hv:fX E args vs:=by exact m4) (hc:fM P f=true:=by kernel_rfl) (hd:cF N dst=true:=by exact rfl)
  (t:aQ pre L F:=by exact aK) (r:∀w,Reads w R F:=by intro w;exact eZ):
  aA P Q N ⟨dst, .call ⟨.value x,args.toArray,dW⟩,ty,pos,aft,g⟩ E L C:=by
 intro K hK a w hs hm;have hr:(execOp a.eval ⟨dst, .call ⟨.value x,args.toArray,dW⟩,ty,pos,aft,g⟩).run P w= .ok (.enter f (fst ++vs).toArray) w:=by
  have e:args.toArray.map a.eval=vs.toArray:=by rw[←hs.mZ hv];simp
  simp only[execOp,resolve,hs.ev hx,Deferred.ofValue,Sem.run_bind,Sem.run_pure,Result.andThen_ok,e,invoke];rw[xC hc];simp
 unfold Oper.wp;rw[hr,Oper.upon_enter];refine(spec w ((hm.aS t).reads (r w))).mono ?_;rintro e w' ⟨s,h1,rfl,hx,hm'⟩;exact hK _ _ (k s h1) _ _ (hs.put _ hd) ((hm.aS t).frame hm' hx)
end
end
namespace Vw
open Go.RowKit Img
section
attribute [local irreducible] aE aB End aA Still aM aP RunT Fn aO
abbrev dL(x:cI)(j:Nat):List (aF×Nat):=(List.range j).map fun i=>((x.l.getD i default).name,i)
theorem yY{α:Type}(l:List (aF×α))(q s:aF)(a:α):bC (l ++[(q,a)]) s=(bC l s).or (if q=s then some a else none):=by
 induction l with
 |nil=>simp[bC]
 |cons p l ih=>
  obtain⟨u,b⟩:=p;rw[v8,bC,bC,ih]
  by_cases h:u=s
  ·simp[h]
  ·simp[h]
theorem B0(x:cI)(j:Nat):dL x (j+1)=dL x j ++[((x.l.getD j default).name,j)]:=by unfold dL;rw[oJ,Jq];rfl
theorem FB(x:cI)(s:aF):∀j i,bC (dL x j) s=some i→i<j
 |0,i,h=>by cases h
 |j+1,i,h=>by
  rw[B0,yY]at h
  cases hm:bC (dL x j) s with
  |some k=>rw[hm]at h;cases h;have:=FB x s j _ hm;omega
  |none=>rw[hm,Option.none_or]at h;split at h<;>cases h;omega
theorem LH(x:cI)(s:aF):∀j,j≤x.l.length→(bC (dL x j) s).map (fun i=>(x.l.getD i default).df)=((x.l.take j).map DL.df).find? fun d=>decide (d.name=s)
 |0,_=>by simp[dL,bC]
 |j+1,h=>by
  rw[B0,yY,mI (by omega),Jq,List.find?_append,←LH x s j (by omega)]
  cases bC (dL x j) s with
  |some k=>rfl
  |none=>
   by_cases hs:(x.l.getD j default).name=s
   ·rw[if_pos hs];simp[DL.df,hs,List.find?];simpa[List.getD]using hs
   ·rw[if_neg hs];simp[DL.df,List.find?];simpa[List.getD]using hs
theorem LI(x:cI)(s:aF)(j:Nat):bC (dL x j) s=none↔s∉(List.range j).map fun i=>(x.l.getD i default).name:=by
 constructor
 ·intro h hm
  induction j with
  |zero=>simp at hm
  |succ j ih=>
   rw[B0,yY]at h;rw[oJ,Jq,dH]at hm
   cases hf:bC (dL x j) s with
   |some k=>rw[hf]at h;cases h
   |none=>
    rcases hm with hm|hm
    ·exact ih hf hm
    ·rw[List.map_singleton,gD]at hm;rw[hf,Option.none_or,if_pos hm.symm]at h;cases h
 ·exact fun h=>LA (fun i=>((x.l.getD i default).name,i)) _ _ h
def mX(P:List Fr.Df):Bool:=Fr.shaped P&&decide ((P.map (·.name)).Nodup)&&(P.any fun d=>decide (d.kind=4))&&P.all (Fr.iT P)&&P.all (Fr.mB P)
structure DL.fF(d:DL):Prop where
 kind:1≤d.kind∧d.kind≤4
 tD:d.kind=2∨d.kind=3→d.params.length≤6
 body:d.kind≠1→d.body.length≤50∧aJ.gW d.body 2
 cap:d.kind=1→1≤d.cap∧d.cap≤20
theorem aAb{d:DL}{c c':Nat}(h:Fr.nX d.df c=some c'):d.fF:=by
 rw[FC]at h;obtain⟨c1, -,h⟩:=bO.1 h
 split at h
 ·next hh=>
  refine⟨⟨hh.1,hh.2.1⟩,fun hk=>(hh.2.2.2.1 hk).1,fun hk=>?_,fun hk=>?_⟩
  ·rw[if_neg hk]at h
   split at h
   ·cases h
   ·exact⟨by omega,F6 _ _ _ _ h⟩
  ·rw[if_pos hk]at h
   split at h
   ·cases h
   ·omega
 ·cases h
theorem P3:∀(l:List DL) (c c':Nat),Fr.kW (l.map DL.df) c=some c'→∀d∈l,d.fF
 |[],_,_,_,d,hd=>by simp at hd
 |x::l,c,c',h,d,hd=>by
  rw[eG,Fr.kW]at h;obtain⟨c1,h1,h⟩:=bO.1 h;rcases eB.1 hd with rfl|hd
  ·exact aAb h1
  ·exact P3 l _ _ h d hd
theorem FX{l:List DL}(h:Fr.shaped (l.map DL.df)=true):l.length≤30∧∀d∈l,d.fF:=by
 unfold Fr.shaped at h;rw[JX]at h;obtain⟨c,hc⟩:=lN.1 h.2;exact⟨by simpa using h.1,P3 l _ _ hc⟩
abbrev MO(x:cI)(pb mb i:Nat):SE:=⟨0,pb,mb,x,dL x x.l.length,i,none,0,[]⟩
theorem MP{cs:List Chunk}{x:cI}(h:nL cs x.o x.c x.l)(pb mb i:Nat)(hi:i<x.l.length):SE.Ok cs (MO x pb mb i):=
 ⟨h,hi,fun n j hj=>FB x n _ j hj,fun n=>by
  have:=LH x n x.l.length (cG _);rw[l4]at this;exact this,by simp⟩
abbrev OB:=(Nat×Nat)×List (aF×Nat)×Int×Int
abbrev aDZ(x:cI)(r:OB):Prop:=(r.2.2.1=0∧r.2.1=dL x x.l.length∧mX (x.l.map DL.df)=true)∨(r.2.2.1≠0∧mX (x.l.map DL.df)=false)
theorem zF{α β:Type} [Inhabited α](l:List α)(f:α→β):(List.range l.length).map (fun i=>f (l.getD i default))=l.map f:=by
 refine mT (by simp) fun i h1 h2=>?_
 simp[Je (show i<l.length by simpa using h2)]
theorem Z9(x:cI)(h:¬((List.range x.l.length).map fun i=>(x.l.getD i default).name).Nodup):mX (x.l.map DL.df)=false:=by
 rw[zF x.l (·.name)]at h;unfold mX;rw[uC,show((fun x=>x.name)∘DL.df)=DL.name from rfl,decide_eq_false h];simp
theorem Z8(x:cI)(h:∀d∈x.l,d.kind≠4):mX (x.l.map DL.df)=false:=by
 unfold mX;rw[show((x.l.map DL.df).any fun d=>decide (d.kind=4))=false by
  rw[tX];intro d hd;obtain⟨e,he,rfl⟩:=fD.1 hd;have h1:=h e he;rw[decide_eq_false (show¬e.df.kind=4 from h1)];simp]
 simp
theorem E6{n j:Nat}{f:Nat→aF}(hn:((List.range n).map f).Nodup)(hj:j<n)(h:f j∈(List.range j).map f):False:=by
 have h2:=((List.range_sublist.2 (show j+1≤n by omega)).map f).nodup hn;rw[oJ,Jq]at h2;exact absurd rfl ((rH.1 h2).2.2 _ h _ (by simp))
set_option maxHeartbeats 1000000 in
theorem aDH(cs:List Chunk)(x:cI)(h:nL cs x.o x.c x.l):Fn Tryz.prog 136 #[.slice x.o x.l.length x.c] [bE cs,bN] [] (σ:=OB) (aDZ x) (fun r=> .tuple #[ptr r.1.1, .agg #[.int .i64 r.2.2.1, .int .i64 r.2.2.2]]) (fun r=>fO r.1.1 r.1.2 x r.2.1):=by
 have ha:=h.arr;refine JE [.slice x.o x.l.length x.c] Tryz.func136 Tryz.ntmps136 fun w S=>?_;refine Jn ?_
 repeat(refine Fm ?_;try intro b)
 obtain⟨fb,rfl⟩:∃x,x=b:=⟨_,rfl⟩;apply aE.op (by exact rfl);refine aA.oV (κ:=aF) (eJ x) (by exact rfl) fun mb=>?_
 refine Jn ?_
 repeat(refine Fm ?_;try intro b)
 obtain⟨pb,rfl⟩:∃x,x=b:=⟨_,rfl⟩;refine FQ (YJ cs x.o x.c x.l h) ?_;intro f hf;refine Jn ?_
 repeat(refine Fm ?_;try intro b)
 obtain⟨wb,rfl⟩:∃x,x=b:=⟨_,rfl⟩;rcases hf with⟨h1, -,h2⟩|⟨h1,h2⟩
 rotate_left
 ·have h1':decide (f.1=0)=false:=decide_eq_false h1
  repeat(refine Fm ?_)
  exact End.nQ ((pb,mb),[],f.1,f.2) (.inr ⟨h1,by unfold mX;rw[h2];rfl⟩) rfl
 have h1':decide (f.1=0)=true:=decide_eq_true h1;obtain⟨h30,hsh⟩:=FX h2
 repeat(refine Fm ?_)
 refine aB.only ((fun z=>aI w S::bE cs::bN::aD fb [.int .i64 0, .int .i64 0] 70::fO pb mb x (dL x z.1)) (0,0)) (aK) ?_;apply aB.loop (σ:=Nat×Nat) (fun z=>z.1≤x.l.length∧z.2≤z.1∧((List.range z.1).map fun i=>(x.l.getD i default).name).Nodup∧(z.2=0↔∀d∈x.l.take z.1,d.kind≠4)) (fun z=>[(0, .slice x.o x.l.length x.c),(3,ptr fb),(4,ptr pb),(6, .int .i64 (z.2:Int)),(26, .int .i64 (x.l.length:Int)),(27, .int .i64 (z.1:Int))]) (fun z=>aI w S::bE cs::bN::aD fb [.int .i64 0, .int .i64 0] 70::fO pb mb x (dL x z.1)) (fun z=>x.l.length-z.1) (0,0)
 rotate_left
 exact sb;exact aK;intro z hz K hK;(refine Jn ?_)
 rotate_left
 ·exact⟨bP _,cG _,by simp,by simp⟩
 obtain⟨j,t⟩:=z;obtain⟨hj,ht,hnd,hcn⟩:=hz;dsimp only at hj ht hnd hcn⊢
 by_cases hlt:j<x.l.length
 ·have hd:=(h.at hlt).has
  cases hm:bC (dL x j) (x.l.getD j default).name with
  |some i=>
   repeat(refine Fm ?_)
   refine End.nQ ((pb,mb),dL x j,7,(j:Int)) (.inr ⟨show(7:Int)≠0 by decide,?_⟩) rfl;refine Z9 x fun hn=>?_
   have hin:(x.l.getD j default).name∈(List.range j).map fun i=>(x.l.getD i default).name:=by
    refine nM fun hc=>?_
    rw[(LI x _ j).2 hc]at hm;cases hm
   exact E6 hn hlt hin
  |none=>
   repeat(refine Fm ?_)
   apply aE.op (by exact rfl);refine aA.qS (g:=eJ x) (a:=j) (k:=?_);rw[oW _ _ _ hm,←B0];have hnd2:((List.range (j+1)).map fun i=>(x.l.getD i default).name).Nodup:=by
    rw[oJ,Jq];exact rH.2 ⟨hnd,by simp,fun a ha b hb=>by rw[List.map_singleton,gD]at hb;exact fun h'=>(LI x _ j).1 hm (by rw[←hb,←h'];exact ha)⟩
   have htk:=mI hlt
   by_cases k4:(x.l.getD j default).kind=4
   ·repeat(refine Fm ?_)
    exact End.bK hK (j+1,t+1) ⟨hlt,by dsimp only;omega,hnd2,⟨fun h=>by dsimp only at h;omega,fun h=>absurd k4 (h _ (by rw[htk];simp))⟩⟩ (by dsimp only;omega)
   ·repeat(refine Fm ?_)
    refine End.bK hK (j+1,t) ⟨hlt,by dsimp only;omega,hnd2,?_⟩ (by dsimp only;omega);rw[htk];dsimp only;rw[hcn];exact⟨fun h d hd=>by
     rcases dH.1 hd with hd|hd
     ·exact h d hd
     ·rw[gD.1 hd];exact k4,fun h d hd=>h d (rG _ hd)⟩
 obtain rfl:j=x.l.length:=by omega
 rw[zF x.l (·.name)]at hnd;rw[l4]at hcn
 by_cases h0:t=0
 ·have h0':decide ((t:Int)=0)=true:=decide_eq_true (by omega)
  repeat(refine Fm ?_)
  exact End.nQ ((pb,mb),dL x x.l.length,6,(x.l.length:Int)) (.inr ⟨show(6:Int)≠0 by decide,Z8 x (hcn.1 h0)⟩) rfl
 have h0':decide ((t:Int)=0)=false:=decide_eq_false (by omega)
 repeat(refine Fm ?_;try intro b)
 obtain⟨vb,rfl⟩:∃x,x=b:=⟨_,rfl⟩;have hany:((x.l.map DL.df).any fun d=>decide (d.kind=4))=true:=by
  cases hb:(x.l.map DL.df).any fun d=>decide (d.kind=4)with
  |true=>rfl
  |false=>
   exfalso
   refine h0 (hcn.2 fun d hd=>?_);have:=tX.1 hb d.df (lO hd);intro h4;rw[decide_eq_true (show d.df.kind=4 from h4)]at this;exact this rfl
 have hck:mX (x.l.map DL.df)=((x.l.map DL.df).all (Fr.iT (x.l.map DL.df))&&(x.l.map DL.df).all (Fr.mB (x.l.map DL.df))):=by
  unfold mX;rw[h2,hany,uC,show((fun x=>x.name)∘DL.df)=DL.name from rfl,decide_eq_true hnd];simp
 have bad:∀{f:Fr.Df→Bool} {i:Nat},i<x.l.length→f (x.l.getD i default).df=false→(x.l.map DL.df).all f=false:=fun{f i} hi hf=>List.all_eq_false.2 ⟨_,lO (dQ hi),by rw[hf];simp⟩
 refine aB.only ((fun k=>aI w S::bE cs::bN::aD vb [.func (.func 160) #[ptr pb] #[], .func (.func 161) #[ptr pb] #[]] 218::aD fb [.int .i64 0, .int .i64 0] 70::fO pb mb x (dL x x.l.length)) 0) (aK) ?_;apply aB.loop (σ:=Nat) (fun k=>k≤2∧(1≤k→(x.l.map DL.df).all (Fr.iT (x.l.map DL.df))=true)∧(2≤k→(x.l.map DL.df).all (Fr.mB (x.l.map DL.df))=true)) (fun k=>[(0, .slice x.o x.l.length x.c),(3,ptr fb),(4,ptr pb),(78, .slice (some ⟨vb,0,none⟩) 2 2),(79, .int .i64 2),(80, .int .i64 (k:Int))]) (fun k=>aI w S::bE cs::bN::aD vb [.func (.func 160) #[ptr pb] #[], .func (.func 161) #[ptr pb] #[]] 218::aD fb [.int .i64 0, .int .i64 0] 70::fO pb mb x (dL x x.l.length)) (fun k=>2-k) 0
 rotate_left
 exact sb;exact aK;intro k hz2 K hK;(refine Jn ?_)
 rotate_left
 ·exact⟨bP _,fun h=>by omega,fun h=>by omega⟩
 obtain⟨k2,hkh,hkb⟩:=hz2;have hk3:k=0∨k=1∨k=2:=by omega
 rcases hk3 with rfl|rfl|rfl
 ·repeat(refine Fm ?_)
  apply aE.op (by exact rfl);refine aA.b8 (h:=Still.DI (i:=0) rfl rfl rfl rfl rfl (by omega)) (k:=?_);apply aE.op (by exact rfl);refine aA.b8 (h:=Still.KN (i:=0) rfl (by kernel_rfl) tk rfl) (k:=?_)
  repeat(refine Fm ?_)
  refine aB.only ((fun k=>aI w S::bE cs::bN::aD vb [.func (.func 160) #[ptr pb] #[], .func (.func 161) #[ptr pb] #[]] 218::aD fb [.int .i64 0, .int .i64 0] 70::fO pb mb x (dL x x.l.length)) 0) (aK) ?_;apply aB.loop (σ:=Nat) (fun j=>j≤x.l.length∧∀i,i<j→Fr.iT (x.l.map DL.df) (x.l.getD i default).df=true) (fun j=>[(0, .slice x.o x.l.length x.c),(3,ptr fb),(4,ptr pb),(11, .func (.func 160) #[ptr pb] #[]),(78, .slice (some ⟨vb,0,none⟩) 2 2),(79, .int .i64 2),(80, .int .i64 0),(85, .int .i64 (x.l.length:Int)),(86, .int .i64 (j:Int))]) (fun k=>aI w S::bE cs::bN::aD vb [.func (.func 160) #[ptr pb] #[], .func (.func 161) #[ptr pb] #[]] 218::aD fb [.int .i64 0, .int .i64 0] 70::fO pb mb x (dL x x.l.length)) (fun j=>x.l.length-j) 0
  rotate_left
  exact sb;exact aK;intro j hj2 K2 hK2;(refine Jn ?_)
  rotate_left
  ·exact⟨bP _,fun i h=>by omega⟩
  obtain⟨hj2,hall⟩:=hj2
  by_cases hl2:j<x.l.length
  ·have sj:=hsh _ (dQ hl2)
   repeat(refine Fm ?_)
   apply aE.op (by exact rfl);refine aA.fM (fst:=[ptr pb]) (spec:=aFH cs (MO x pb mb j) (MP h pb mb j hl2) sj.tD) (fun e he=>?_);refine Jn ?_
   by_cases e0:e=0
   ·subst e0
    repeat(refine Fm ?_)
    refine End.bK hK2 (j+1) ⟨hl2,fun i hi=>?_⟩ (by omega);rcases vU.1 hi with hi|rfl
    ·exact hall i hi
    ·exact he.1 rfl
   ·have e0':decide (e=0)=false:=decide_eq_false e0;have hbad:Fr.iT (x.l.map DL.df) (x.l.getD j default).df=false:=by
     cases hb:Fr.iT (x.l.map DL.df) (x.l.getD j default).df with
     |false=>rfl
     |true=>exact absurd (he.2 hb) e0
    repeat(refine Fm ?_)
    exact End.nQ ((pb,mb),dL x x.l.length,e,(j:Int)) (.inr ⟨e0,by rw[hck,bad hl2 hbad];simp⟩) rfl
  ·have hal:(x.l.map DL.df).all (Fr.iT (x.l.map DL.df))=true:=sL.2 fun d hd=>by
    obtain⟨e,he,rfl⟩:=fD.1 hd;obtain⟨i,hi,rfl⟩:=mS he;have:=hall i (by omega);rwa [Jd,Je hi]at this
   repeat(refine Fm ?_)
   exact End.bK hK 1 ⟨by omega,fun _=>hal,fun h=>by omega⟩ (by omega)
 ·repeat(refine Fm ?_)
  apply aE.op (by exact rfl);refine aA.b8 (h:=Still.DI (i:=1) rfl rfl rfl rfl rfl (by omega)) (k:=?_);apply aE.op (by exact rfl);refine aA.b8 (h:=Still.KN (i:=1) rfl (by kernel_rfl) tk rfl) (k:=?_)
  repeat(refine Fm ?_)
  refine aB.only ((fun k=>aI w S::bE cs::bN::aD vb [.func (.func 160) #[ptr pb] #[], .func (.func 161) #[ptr pb] #[]] 218::aD fb [.int .i64 0, .int .i64 0] 70::fO pb mb x (dL x x.l.length)) 0) (aK) ?_;apply aB.loop (σ:=Nat) (fun j=>j≤x.l.length∧∀i,i<j→Fr.mB (x.l.map DL.df) (x.l.getD i default).df=true) (fun j=>[(0, .slice x.o x.l.length x.c),(3,ptr fb),(4,ptr pb),(11, .func (.func 161) #[ptr pb] #[]),(78, .slice (some ⟨vb,0,none⟩) 2 2),(79, .int .i64 2),(80, .int .i64 1),(85, .int .i64 (x.l.length:Int)),(86, .int .i64 (j:Int))]) (fun k=>aI w S::bE cs::bN::aD vb [.func (.func 160) #[ptr pb] #[], .func (.func 161) #[ptr pb] #[]] 218::aD fb [.int .i64 0, .int .i64 0] 70::fO pb mb x (dL x x.l.length)) (fun j=>x.l.length-j) 0
  rotate_left
  exact sb;exact aK;intro j hj2 K2 hK2;(refine Jn ?_)
  rotate_left
  ·exact⟨bP _,fun i h=>by omega⟩
  obtain⟨hj2,hall⟩:=hj2
  by_cases hl2:j<x.l.length
  ·have sj:=hsh _ (dQ hl2)
   repeat(refine Fm ?_)
   apply aE.op (by exact rfl);refine aA.fM (fst:=[ptr pb]) (spec:=aFD cs (MO x pb mb j) (MP h pb mb j hl2) (sL.1 (hkh (by omega))) sj.kind sj.tD sj.body) (fun e he=>?_);refine Jn ?_
   by_cases e0:e=0
   ·subst e0
    repeat(refine Fm ?_)
    refine End.bK hK2 (j+1) ⟨hl2,fun i hi=>?_⟩ (by omega);rcases vU.1 hi with hi|rfl
    ·exact hall i hi
    ·exact he.1 rfl
   ·have e0':decide (e=0)=false:=decide_eq_false e0;have hbad:Fr.mB (x.l.map DL.df) (x.l.getD j default).df=false:=by
     cases hb:Fr.mB (x.l.map DL.df) (x.l.getD j default).df with
     |false=>rfl
     |true=>exact absurd (he.2 hb) e0
    repeat(refine Fm ?_)
    exact End.nQ ((pb,mb),dL x x.l.length,e,(j:Int)) (.inr ⟨e0,by rw[hck,bad hl2 hbad];simp⟩) rfl
  ·have hal:(x.l.map DL.df).all (Fr.mB (x.l.map DL.df))=true:=sL.2 fun d hd=>by
    obtain⟨e,he,rfl⟩:=fD.1 hd;obtain⟨i,hi,rfl⟩:=mS he;have:=hall i (by omega);rwa [Jd,Je hi]at this
   repeat(refine Fm ?_)
   exact End.bK hK 2 ⟨by omega,fun _=>hkh (by omega),fun _=>hal⟩ (by omega)
 ·repeat(refine Fm ?_)
  exact End.nQ ((pb,mb),dL x x.l.length,0,0) (.inl ⟨rfl,rfl,by rw[hck,hkh (by omega),hkb (by omega)];rfl⟩) rfl
end
end Vw
section
open Go
theorem aAT{P:Program}{Q:Exit→Act→World→Prop}{N:Nd}{E:Env}{L:List Chunk}{c0 y c:Code}{id:Nat}{σ:Type}(ok:σ→Prop)(inv:σ→Env)(mem:σ→List Chunk)(h2:∀s,ok s→aB P Q N y (inv s) (mem s))
  (h1:∀K':Act→World→Prop,(∀s,ok s→∀a w,Sat N a (inv s)→Mem w (mem s)→K' a w)→aB P (fE P c (Exit.inBlock id (Exit.then K' Q))) N c0 E L):aB P (fE P c (Exit.inBlock id (fE P y Q))) N c0 E L:=by
 rw[show fE P y Q=Exit.then (y.wp P Q) Q by unfold fE;rfl];exact h1 _ (fun s hs a w ha hm=>h2 s hs a w ha hm)
end
namespace Vw
open Go.RowKit Img
section
attribute [local irreducible] aE aB End aA Still aM aP RunT Fn aO
structure dC where
 co:Option Addr
 cc:Nat
 cl:List aF
 so:Option Addr
 sc:Nat
 sl:List aF
 ro:Option Addr
 rc:Nat
 rl:List aF
abbrev uM(b:Nat)(u:dC):List Chunk:=[aD b [.slice u.co u.cl.length u.cc, .slice u.so u.sl.length u.sc, .slice u.ro u.rl.length u.rc] 269,arr u.co u.cl.length u.cc 9 eW u.cl,arr u.so u.sl.length u.sc 9 eW u.sl,arr u.ro u.rl.length u.rc 9 eW u.rl]
def dC.fA(u:dC)(s:Fr.Us)(v:dC):Prop:=v.cl=u.cl ++s.calls∧v.sl=u.sl ++s.nF∧v.rl=u.rl ++s.nE
def dC.Fit(u:dC)(s:Fr.Us):Prop:=u.cl.length+s.calls.length≤1000000∧u.sl.length+s.nF.length≤1000000∧u.rl.length+s.nE.length≤1000000
theorem dC.fA.trans{u v w:dC}{s t:Fr.Us}(h:u.fA s v)(g:v.fA t w):u.fA (s.add t) w:=⟨by rw[g.1,h.1,Jt];rfl,by rw[g.2.1,h.2.1,Jt];rfl,by rw[g.2.2,h.2.2,Jt];rfl⟩
theorem dC.Fit.left{u:dC}{s t:Fr.Us}(h:u.Fit (s.add t)):u.Fit s:=by
 unfold dC.Fit Fr.Us.add at *;simp only[Jl]at h;omega
theorem dC.Fit.right{u v:dC}{s t:Fr.Us}(h:u.Fit (s.add t))(g:u.fA s v):v.Fit t:=by
 unfold dC.Fit Fr.Us.add at *;obtain⟨g1,g2,g3⟩:=g;rw[g1,g2,g3];simp only[Jl]at h⊢;omega
theorem dC.fA.refl(u:dC):u.fA default u:=⟨(eH _).symm,(eH _).symm,(eH _).symm⟩
theorem Us.add_assoc(s t u:Fr.Us):(s.add t).add u=s.add (t.add u):=by
 unfold Fr.Us.add;simp[Jt]
def vM(x:Fr.Ex):Fr.Us:=⟨(Fr.qA x).1,[],(Fr.qA x).2⟩
def vN(l:List Fr.Ex):Fr.Us:=⟨(Fr.nJ l).1,[],(Fr.nJ l).2⟩
def vO(k:Int)(s:aF):Fr.Us:=if k=19∨k=22 then⟨[s],[],[]⟩else if k=20 then⟨[],[],[s]⟩else default
theorem aHO(x:EL):vM x.ex=(vO x.k x.s).add (vN (EL.bT x.kids)):=by
 cases x with
 |mk k n s o c l=>
  unfold vM vN vO;rw[EL.ex,Fr.qA];show Fr.Us.mk _ _ _=Fr.Us.add (if k=19∨k=22 then⟨[s],[],[]⟩else if k=20 then⟨[],[],[s]⟩else default) ⟨(Fr.nJ (EL.bT l)).1,[],(Fr.nJ (EL.bT l)).2⟩
  by_cases h1:k=19∨k=22
  ·rw[if_pos h1,if_pos h1,if_neg (by omega)];rfl
  ·rw[if_neg h1,if_neg h1]
   by_cases h2:k=20
   ·rw[if_pos h2,if_pos h2];rfl
   ·rw[if_neg h2,if_neg h2];rfl
theorem aHP{l:List EL}{j:Nat}(h:j<l.length):vN (EL.bT (l.drop j))=(vM (l.getD j default).ex).add (vN (EL.bT (l.drop (j+1)))):=by
 rw[nR h,EL.bT];unfold vN vM Fr.Us.add;rw[Fr.nJ];rfl
abbrev OJ(cs:List Chunk)(x:EL):Prop:=∀(ub b o:Nat) (u:dC),mQ cs b o x→x.fF→u.Fit (vM x.ex)→Fn Tryz.prog 181 #[ptr ub, .pointer (some ⟨b,o,none⟩)] [bE cs] (uM ub u) (σ:=dC) (u.fA (vM x.ex)) (fun _=> .tuple #[]) (fun v=>uM ub v)
set_option maxHeartbeats 1000000 in
theorem WZ(cs:List Chunk)(x:EL):OJ cs x:=by
 refine EL.ind (p:=OJ cs) (fun x ih ub xb o u hx hS hf=>?_) x;have hX:=hx.has;have ha:=hx.arr;obtain⟨kl,kh, -,h6⟩:=hS.len;have hdef:=aHO x;rw[hdef]at hf⊢;refine JE [ptr ub, .pointer (some ⟨xb,o,none⟩)] Tryz.func181 Tryz.ntmps181 fun w S=>?_;refine Jn ?_
 repeat(refine Fm ?_)
 refine aAT (σ:=dC) (fun v=>u.fA (vO x.k x.s) v) (fun _=>[(0,ptr ub),(1, .pointer (some ⟨xb,o,none⟩))]) (fun v=>aI w S::bE cs::uM ub v) ?_ ?_
 ·intro v hv;refine Jn ?_;have hf2:=hf.right hv;clear hf
  repeat(refine Fm ?_)
  refine aB.only ((fun z=>aI w S::bE cs::uM ub z.2) (0,v)) (aK) ?_;apply aB.loop (σ:=Nat×dC) (fun z=>z.1≤x.kids.length∧z.2.Fit (vN (EL.bT (x.kids.drop z.1)))∧∀r,z.2.fA (vN (EL.bT (x.kids.drop z.1))) r→u.fA ((vO x.k x.s).add (vN (EL.bT x.kids))) r) (fun z=>[(0,ptr ub),(1, .pointer (some ⟨xb,o,none⟩)),(44, .int .i64 (x.kids.length:Int)),(45, .int .i64 (z.1:Int))]) (fun z=>aI w S::bE cs::uM ub z.2) (fun z=>x.kids.length-z.1) (0,v)
  rotate_left
  exact sb;exact aK;intro z hz K hK;(refine Jn ?_)
  rotate_left
  ·exact⟨bP _,hf2,fun r hr=>hv.trans hr⟩
  obtain⟨j,v2⟩:=z;obtain⟨hj,hfj,hgj⟩:=hz;dsimp only at hj hfj hgj⊢
  by_cases hlt:j<x.kids.length
  ·rw[aHP hlt]at hfj hgj
   repeat(refine Fm ?_)
   refine FQ (ih _ (dQ hlt) ub _ _ v2 (hx.lF hlt) (hS.kids _ (dQ hlt)) hfj.left) ?_;intro v3 hv3;refine Jn ?_
   repeat(refine Fm ?_)
   exact End.bK hK (j+1,v3) ⟨hlt,hfj.right hv3,fun r hr=>hgj r (hv3.trans hr)⟩ (by dsimp only;omega)
  ·repeat(refine Fm ?_)
   exact End.cY v2 (hp:=hgj v2 (by rw[lD (by omega)];exact dC.fA.refl v2))
 ·intro K' hK;have hu:=hf.left;clear hf hdef;unfold vO dC.Fit at hu;have hc:(x.k=19∨x.k=22)∨x.k=20∨¬(x.k=19∨x.k=22)∧¬x.k=20:=by omega
  rcases hc with h1|h1|⟨h1,h2⟩
  ·rw[if_pos h1]at hu;simp only[jA]at hu;rcases h1 with h1|h1
   all_goals
    repeat(refine Fm ?_)
    apply aB.draw 13 ([bE cs,aD ub [.slice u.co u.cl.length u.cc, .slice u.so u.sl.length u.sc, .slice u.ro u.rl.length u.rc] 269]) (by kernel_rfl) 14 rfl;refine RunT.a7 0 (hQ:=bA) (h:=?_);refine RunT.a7 1 (hQ:=bA) (h:=?_);refine RunT.a7 2 (hQ:=bA) (h:=?_);refine RunT.a7 3 (hQ:=bA) (h:=?_);refine RunT.a7 4 (hQ:=bA) (h:=?_);refine RunT.a7 5 (hQ:=bA) (h:=?_);refine RunT.a7 6 (hQ:=bA) (h:=?_);refine RunT.a7 7 (hQ:=bA) (h:=?_);refine RunT.a7 8 (hQ:=bA) (hy:=Fh) (h:=?_);(refine JT 9 ?_;(refine Jb ?_;intro b);refine JG ?_);(refine JT 10 ?_;refine aA.jL (a:=x.s) (k:=?_);intro ao cap;refine JG ?_;(refine Jn ?_));refine RunT.a7 11 (hQ:=bA) (h:=?_);refine RunT.a7 12 (hQ:=bA) (h:=?_);(refine JT 13 ?_;(refine Jw ?_);refine JG ?_);(apply RunT.done;kernel_rfl)
    repeat(refine Fm ?_)
    rw[show u.cl.length+1=(u.cl ++[x.s]).length by simp];refine End.some_ hK ⟨ao,cap,u.cl ++[x.s],u.so,u.sc,u.sl,u.ro,u.rc,u.rl⟩ ?_;unfold vO;rw[if_pos (by omega)];exact⟨rfl,(eH _).symm,(eH _).symm⟩
  ·rw[if_neg (by omega),if_pos h1]at hu;simp only[jA]at hu
   repeat(refine Fm ?_)
   apply aB.draw 13 ([bE cs,aD ub [.slice u.co u.cl.length u.cc, .slice u.so u.sl.length u.sc, .slice u.ro u.rl.length u.rc] 269]) (by kernel_rfl) 14 rfl;refine RunT.a7 0 (hQ:=bA) (h:=?_);refine RunT.a7 1 (hQ:=bA) (h:=?_);refine RunT.a7 2 (hQ:=bA) (h:=?_);refine RunT.a7 3 (hQ:=bA) (h:=?_);refine RunT.a7 4 (hQ:=bA) (h:=?_);refine RunT.a7 5 (hQ:=bA) (h:=?_);refine RunT.a7 6 (hQ:=bA) (h:=?_);refine RunT.a7 7 (hQ:=bA) (h:=?_);refine RunT.a7 8 (hQ:=bA) (hy:=Fh) (h:=?_);(refine JT 9 ?_;(refine Jb ?_;intro b);refine JG ?_);(refine JT 10 ?_;refine aA.jL (a:=x.s) (k:=?_);intro ao cap;refine JG ?_;(refine Jn ?_));refine RunT.a7 11 (hQ:=bA) (h:=?_);refine RunT.a7 12 (hQ:=bA) (h:=?_);(refine JT 13 ?_;(refine Jw ?_);refine JG ?_);(apply RunT.done;kernel_rfl)
   repeat(refine Fm ?_)
   rw[show u.rl.length+1=(u.rl ++[x.s]).length by simp];refine End.some_ hK ⟨u.co,u.cc,u.cl,u.so,u.sc,u.sl,ao,cap,u.rl ++[x.s]⟩ ?_;unfold vO;rw[if_neg (by omega),if_pos h1];exact⟨(eH _).symm,(eH _).symm,rfl⟩
  ·repeat(refine Fm ?_)
   refine End.some_ hK u ?_;unfold vO;rw[if_neg h1,if_neg h2];exact dC.fA.refl u
theorem aHQ(x:aJ):Fr.sD x.st=(⟨[],if x.k=7 then [x.s]else [],[]⟩:Fr.Us).add ((if x.k=6 then default else vM x.x.ex).add ((if x.k=3∨x.k=4 then Fr.cT (aJ.bR x.body)else default).add (if x.k=3 then Fr.cT (aJ.bR x.eY)else default))):=by
 cases x;rw[aJ.st,Fr.sD,Us.add_assoc];rfl
theorem aHR{l:List aJ}{j:Nat}(h:j<l.length):Fr.cT (aJ.bR (l.drop j))=(Fr.sD (l.getD j default).st).add (Fr.cT (aJ.bR (l.drop (j+1)))):=by
 rw[nR h,aJ.bR,Fr.cT]
abbrev x4(cs:List Chunk)(l:List aJ):Prop:=∀(ub:Nat) (a:Option Addr) (ca d:Nat) (u:dC),sR cs a ca l→aJ.gW l d→l.length≤50→u.Fit (Fr.cT (aJ.bR l))→
 Fn Tryz.prog 162 #[ptr ub, .slice a l.length ca] [bE cs] (uM ub u) (σ:=dC) (u.fA (Fr.cT (aJ.bR l))) (fun _=> .tuple #[]) (fun v=>uM ub v)
set_option maxHeartbeats 1000000 in
theorem NQ(cs:List Chunk)(l:List aJ)(ih:∀x∈l,x4 cs x.body∧x4 cs x.eY):x4 cs l:=by
 intro ub a ca d u hl hS h50 hf;have ha:=hl.arr;refine JE [ptr ub, .slice a l.length ca] Tryz.func162 Tryz.ntmps162 fun w S=>?_;refine Jn ?_
 repeat(refine Fm ?_)
 refine aB.only ((fun z=>aI w S::bE cs::uM ub z.2) (0,u)) (aK) ?_;apply aB.loop (σ:=Nat×dC) (fun z=>z.1≤l.length∧z.2.Fit (Fr.cT (aJ.bR (l.drop z.1)))∧∀r,z.2.fA (Fr.cT (aJ.bR (l.drop z.1))) r→u.fA (Fr.cT (aJ.bR l)) r) (fun z=>[(0,ptr ub),(1, .slice a l.length ca),(7, .int .i64 (l.length:Int)),(8, .int .i64 (z.1:Int))]) (fun z=>aI w S::bE cs::uM ub z.2) (fun z=>l.length-z.1) (0,u)
 rotate_left
 exact sb;exact aK;intro z hz K hK;(refine Jn ?_)
 rotate_left
 ·exact⟨bP _,hf,fun r hr=>hr⟩
 obtain⟨j,v⟩:=z;obtain⟨hj,hfj,hgj⟩:=hz;dsimp only at hj hfj hgj⊢;clear hf
 by_cases hlt:j<l.length
 rotate_left
 ·repeat(refine Fm ?_)
  exact End.cY v (hp:=hgj v (by rw[lD (by omega)];exact dC.fA.refl v))
 rw[aHR hlt,aHQ]at hfj hgj;have hy:=hl.lF hlt;obtain⟨ihb,ihe⟩:=ih _ (dQ hlt);obtain⟨-,hhd,hxs,hbs,hes⟩:=(hS.all _ (dQ hlt)).get;obtain⟨y,ey⟩:∃y,l.getD j default=y:=⟨_,rfl⟩;rw[ey]at hfj hgj hy ihb ihe hhd hxs hbs hes;obtain⟨nm, -, -,hh⟩:=D9 y.k y.s;obtain⟨l1,l9, -⟩:=hh.1 hhd;have hX:=hy.has;have hE:=hy.ex;clear hh hhd nm ih;have hfa:=hfj.left;have hnx:∀v',v.fA ((⟨[],if y.k=7 then [y.s]else [],[]⟩:Fr.Us).add ((if y.k=6 then default else vM y.x.ex).add ((if y.k=3∨y.k=4 then Fr.cT (aJ.bR y.body)else default).add (if y.k=3 then Fr.cT (aJ.bR y.eY)else default)))) v'→v'.Fit (Fr.cT (aJ.bR (l.drop (j+1))))∧∀r,v'.fA (Fr.cT (aJ.bR (l.drop (j+1)))) r→u.fA (Fr.cT (aJ.bR l)) r:=fun v' h=>⟨hfj.right h,fun r hr=>hgj r (h.trans hr)⟩
 clear hfj hgj
 by_cases k7:y.k=7
 ·rw[if_pos k7,if_neg (by omega),if_neg (by omega),if_neg (by omega)]at hfa hnx;have hu:=hfa.left;unfold dC.Fit at hu;simp only[jA]at hu
  repeat(refine Fm ?_)
  apply aB.draw 13 ([bE cs,aD ub [.slice v.co v.cl.length v.cc, .slice v.so v.sl.length v.sc, .slice v.ro v.rl.length v.rc] 269]) (by kernel_rfl) 14 rfl;refine RunT.a7 0 (hQ:=bA) (h:=?_);refine RunT.a7 1 (hQ:=bA) (h:=?_);refine RunT.a7 2 (hQ:=bA) (h:=?_);refine RunT.a7 3 (hQ:=bA) (h:=?_);refine RunT.a7 4 (hQ:=bA) (h:=?_);refine RunT.a7 5 (hQ:=bA) (h:=?_);refine RunT.a7 6 (hQ:=bA) (h:=?_);refine RunT.a7 7 (hQ:=bA) (h:=?_);refine RunT.a7 8 (hQ:=bA) (hy:=Fh) (h:=?_);(refine JT 9 ?_;(refine Jb ?_;intro b);refine JG ?_);(refine JT 10 ?_;refine aA.jL (a:=y.s) (k:=?_);intro ao cap;refine JG ?_;(refine Jn ?_));refine RunT.a7 11 (hQ:=bA) (h:=?_);refine RunT.a7 12 (hQ:=bA) (h:=?_);(refine JT 13 ?_;(refine Jw ?_);refine JG ?_);(apply RunT.done;kernel_rfl);rw[show v.sl.length+1=(v.sl ++[y.s]).length by simp];have g1:v.fA (⟨[],[y.s],[]⟩:Fr.Us) ⟨v.co,v.cc,v.cl,ao,cap,v.sl ++[y.s],v.ro,v.rc,v.rl⟩:=⟨(eH _).symm,rfl,(eH _).symm⟩
  repeat(refine Fm ?_)
  refine FQ (WZ cs y.x ub _ _ ⟨v.co,v.cc,v.cl,ao,cap,v.sl ++[y.s],v.ro,v.rc,v.rl⟩ hE (hxs (by omega)) (hfa.right g1).left) ?_;intro v2 hv2;refine Jn ?_
  repeat(refine Fm ?_)
  obtain⟨n1,n2⟩:=hnx v2 (g1.trans (hv2.trans ((dC.fA.refl v2).trans (dC.fA.refl v2))));exact End.bK hK (j+1,v2) ⟨hlt,n1,n2⟩ (by dsimp only;omega)
 rw[if_neg k7]at hfa hnx;have hfa:=hfa.right (show v.fA (⟨[],[],[]⟩:Fr.Us) v from dC.fA.refl v);have hnx:=fun v' h=>hnx v' ((show v.fA (⟨[],[],[]⟩:Fr.Us) v from dC.fA.refl v).trans h)
 by_cases k6:y.k=6
 ·rw[if_pos k6,if_neg (by omega),if_neg (by omega)]at hnx
  repeat(refine Fm ?_)
  obtain⟨n1,n2⟩:=hnx v ((dC.fA.refl v).trans ((dC.fA.refl v).trans (dC.fA.refl v)));exact End.bK hK (j+1,v) ⟨hlt,n1,n2⟩ (by dsimp only;omega)
 rw[if_neg k6]at hfa hnx
 repeat(refine Fm ?_)
 refine FQ (WZ cs y.x ub _ _ v hE (hxs k6) hfa.left) ?_;intro v2 hv2;refine Jn ?_;have hfa:=hfa.right hv2
 by_cases k3:y.k=3
 ·rw[if_pos (by omega),if_pos k3]at hfa hnx
  repeat(refine Fm ?_)
  refine FQ (ihb ub _ _ _ v2 hy.body (hbs (by omega)).2 (hbs (by omega)).1 hfa.left) ?_;intro v3 hv3;refine Jn ?_
  repeat(refine Fm ?_)
  refine FQ (ihe ub _ _ _ v3 hy.eY (hes k3).2 (hes k3).1 (hfa.right hv3)) ?_;intro v4 hv4;refine Jn ?_
  repeat(refine Fm ?_)
  obtain⟨n1,n2⟩:=hnx v4 (hv2.trans (hv3.trans hv4));exact End.bK hK (j+1,v4) ⟨hlt,n1,n2⟩ (by dsimp only;omega)
 by_cases k4:y.k=4
 ·rw[if_pos (by omega),if_neg k3]at hfa hnx
  repeat(refine Fm ?_)
  refine FQ (ihb ub _ _ _ v2 hy.body (hbs (by omega)).2 (hbs (by omega)).1 hfa.left) ?_;intro v3 hv3;refine Jn ?_
  repeat(refine Fm ?_)
  obtain⟨n1,n2⟩:=hnx v3 (hv2.trans (hv3.trans (dC.fA.refl v3)));exact End.bK hK (j+1,v3) ⟨hlt,n1,n2⟩ (by dsimp only;omega)
 ·rw[if_neg (by omega),if_neg k3]at hnx
  repeat(refine Fm ?_)
  obtain⟨n1,n2⟩:=hnx v2 (hv2.trans ((dC.fA.refl v2).trans (dC.fA.refl v2)));exact End.bK hK (j+1,v2) ⟨hlt,n1,n2⟩ (by dsimp only;omega)
theorem aHC(cs:List Chunk)(l:List aJ):x4 cs l:=NQ cs l fun x _=>aJ.ind (p:=fun x=>x4 cs x.body∧x4 cs x.eY) (fun x h1 h2=>⟨NQ cs _ h1,NQ cs _ h2⟩) x
end
end Vw
namespace Fr
open ImgM
theorem y7{d c c':Nat}(h:nd d c=some c'):c'=c+1∧c'≤2000:=by
 unfold nd at h
 split at h<;>cases h
 omega
mutual
theorem XE:∀(x:Ex) (d c c':Nat),iD d x c=some c'→c'≤2000∧(qA x).1.length+c≤c'∧(qA x).2.length+c≤c'
 | .mk k n s l,d,c,c',h=>by
  rw[iD]at h;obtain⟨c1,h1,h⟩:=bO.1 h;obtain⟨e1,e2⟩:=y7 h1
  split at h
  ·have:=XG l _ _ _ e2 h;rw[qA];dsimp only;rw[Jl,Jl];refine⟨this.1,?_,?_⟩<;>split<;>simp only[jA,oI]<;>omega
  ·cases h
theorem XG:∀(l:List Ex) (d c c':Nat),c≤2000→iW d l c=some c'→c'≤2000∧(nJ l).1.length+c≤c'∧(nJ l).2.length+c≤c'
 |[],d,c,c',hc,h=>by rw[iW]at h;cases h;rw[nJ];simpa using hc
 |x::l,d,c,c',hc,h=>by
  rw[iW]at h;obtain⟨c1,h1,h⟩:=bO.1 h;have a:=XE x _ _ _ h1;have b:=XG l _ _ _ a.1 h;rw[nJ];dsimp only;rw[Jl,Jl];omega
end
mutual
theorem aHT:∀(x:St) (d c c':Nat),jO d x c=some c'→c'≤2000∧(sD x).calls.length+c≤c'∧(sD x).nF.length+c≤c'∧(sD x).nE.length+c≤c'
 | .mk k s x b e,d,c,c',h=>by
  rw[jO]at h;obtain⟨c1,h1,h⟩:=bO.1 h;obtain⟨e1,e2⟩:=y7 h1
  split at h
  ·rw[sD];unfold Us.add;dsimp only;simp only[Jl]
   by_cases h6:k=6
   ·rw[if_pos h6]at h
    cases h
    subst h6;simp only[show¬((6:Int)=7) by decide,show¬((6:Int)=3∨(6:Int)=4) by decide,show¬((6:Int)=3) by decide,if_true,if_false];refine⟨e2,?_,?_,?_⟩<;>(show 0+0+(0+0)+_≤_;omega)
   ·rw[if_neg h6]at h;obtain⟨c2,h2,h⟩:=bO.1 h;obtain⟨c3,h3,h⟩:=bO.1 h;have a:=XE x _ _ _ h2;have b':c3≤2000∧(if k=3∨k=4 then cT b else default).calls.length+c2≤c3∧(if k=3∨k=4 then cT b else default).nF.length+c2≤c3∧(if k=3∨k=4 then cT b else default).nE.length+c2≤c3:=by
     by_cases h34:k=3∨k=4
     ·rw[if_pos h34]at h3;rw[if_pos h34]
      split at h3
      ·cases h3
      ·exact GM b _ _ _ a.1 h3
     ·rw[if_neg h34]at h3;rw[if_neg h34]
      cases h3
      refine⟨a.1,?_,?_,?_⟩<;>(show 0+_≤_;omega)
    have e':c'≤2000∧(if k=3 then cT e else default).calls.length+c3≤c'∧(if k=3 then cT e else default).nF.length+c3≤c'∧(if k=3 then cT e else default).nE.length+c3≤c':=by
     by_cases h33:k=3
     ·rw[if_pos h33]at h;rw[if_pos h33]
      split at h
      ·cases h
      ·exact GM e _ _ _ b'.1 h
     ·rw[if_neg h33]at h;rw[if_neg h33]
      cases h
      refine⟨b'.1,?_,?_,?_⟩<;>(show 0+_≤_;omega)
    rw[if_neg h6];dsimp only;have hs:(if k=7 then [s]else([]:List aF)).length≤1:=by split<;>simp
    simp only[oI];omega
  ·cases h
theorem GM:∀(l:List St) (d c c':Nat),c≤2000→dZ d l c=some c'→c'≤2000∧(cT l).calls.length+c≤c'∧(cT l).nF.length+c≤c'∧(cT l).nE.length+c≤c'
 |[],d,c,c',hc,h=>by rw[dZ]at h;cases h;rw[cT];refine⟨hc,?_,?_,?_⟩<;>(show 0+_≤_;omega)
 |x::l,d,c,c',hc,h=>by
  rw[dZ]at h;obtain⟨c1,h1,h⟩:=bO.1 h;have a:=aHT x _ _ _ h1;have b:=GM l _ _ _ a.1 h;rw[cT];unfold Us.add;dsimp only;simp only[Jl];omega
end
theorem XA{d:Df}{c c':Nat}(h:nX d c=some c')(hc:c≤2000):c'≤2000∧(d.kind≠1→(cT d.body).calls.length≤2000∧(cT d.body).nF.length≤2000∧(cT d.body).nE.length≤2000):=by
 unfold nX at h;obtain⟨c1,h1,h⟩:=bO.1 h;obtain⟨e1,e2⟩:=y7 h1
 split at h
 ·by_cases hk:d.kind=1
  ·rw[if_pos hk]at h
   split at h<;>cases h
   exact⟨e2,fun h=>absurd hk h⟩
  ·rw[if_neg hk]at h
   split at h
   ·cases h
   ·have a:=GM d.body _ _ _ e2 h;exact⟨a.1,fun _=>by omega⟩
 ·cases h
theorem XC:∀(l:List Df) (c c':Nat),c≤2000→kW l c=some c'→∀d∈l,d.kind≠1→(cT d.body).calls.length≤2000∧(cT d.body).nF.length≤2000∧(cT d.body).nE.length≤2000
 |[],_,_,_,_,d,hd=>by simp at hd
 |x::l,c,c',hc,h,d,hd=>by
  rw[kW]at h;obtain⟨c1,h1,h⟩:=bO.1 h;have a:=XA h1 hc;rcases eB.1 hd with rfl|hd
  ·exact a.2
  ·exact XC l _ _ a.1 h d hd
theorem aFa{P:List Df}(h:shaped P=true):∀d∈P,d.kind≠1→(cT d.body).calls.length≤2000∧(cT d.body).nF.length≤2000∧(cT d.body).nE.length≤2000:=by
 unfold shaped at h;rw[JX]at h;obtain⟨c,hc⟩:=lN.1 h.2;exact XC P _ _ (by omega) hc
section
variable{P:List Df}{D:Df}
def callee(P:List Df)(n:aF):Prop:=∃d,kP P n=some d∧(d.kind=2∨d.kind=3)
theorem xL{B:Scope}:∀{ts:List Ty} {l:List Ex},eD P D B ts l=some ()→∀x∈l,∃t,b5 P D B x=some t
 |[],[],_,x,hx=>by simp at hx
 |[],y::l,h,x,hx=>by rw[eD]at h;cases h;all_goals simp
 |t::ts,[],h,x,hx=>by simp at hx
 |t::ts,y::l,h,x,hx=>by
  rw[eD]at h;obtain⟨_,h1,h⟩:=bO.1 h;rcases eB.1 hx with rfl|hx
  ·unfold same at h1;obtain⟨u,hu, -⟩:=bO.1 h1;exact⟨u,hu⟩
  ·exact xL h x hx
theorem GI{B:Scope}:∀{l:List Ex} {ts:List Ty},kK P D B l=some ts→∀x∈l,∃t,b5 P D B x=some t
 |[],ts,h,x,hx=>by simp at hx
 |y::l,ts,h,x,hx=>by
  rw[kK]at h;obtain⟨u,h1,h⟩:=bO.1 h;obtain⟨us,h2,h⟩:=dG.1 h;rcases eB.1 hx with rfl|hx
  ·exact⟨u,h1⟩
  ·exact GI h2 x hx
theorem WU{B:Scope}{k n:Int}{s:aF}{l:List Ex}{t:Ty}(hh:m8 k n s l.length=true)(h:b5 P D B (.mk k n s l)=some t):(∀x∈l,∃t,b5 P D B x=some t)∧((k=19∨k=22)→callee P s)∧(k=3→∃t,eL B s=some t)∧(k=20→∃d,jY P 1 s=some d):=by
 have nil:gA k=0→∀x∈l,∃t,b5 P D B x=some t:=fun h0=>by
  have:l=[]:=by
   unfold m8 at hh;simp only[JX]at hh;have h1:=hh.1.2;rw[decide_eq_true (by omega)]at h1;simp only[sM,Bool.not_not,JV]at h1;exact pE (by omega)
  subst this;simp
 rw[b5]at h
 by_cases h1:k=1
 ·exact⟨nil (by unfold gA;rw[if_pos (by omega)]),by omega,by omega,by omega⟩
 rw[if_neg h1]at h
 by_cases h2:k=2
 ·exact⟨nil (by unfold gA;rw[if_pos (by omega)]),by omega,by omega,by omega⟩
 rw[if_neg h2]at h
 by_cases h3:k=3
 ·rw[if_pos h3]at h;exact⟨nil (by unfold gA;rw[if_pos (by omega)]),by omega,fun _=>⟨t,h⟩,by omega⟩
 rw[if_neg h3]at h
 by_cases h4:k=4
 ·rw[if_pos h4]at h;obtain⟨_,h, -⟩:=dG.1 h;exact⟨xL h,by omega,by omega,by omega⟩
 rw[if_neg h4]at h
 by_cases h5:k=5
 ·rw[if_pos h5]at h;obtain⟨_,h, -⟩:=dG.1 h;exact⟨xL h,by omega,by omega,by omega⟩
 rw[if_neg h5]at h
 by_cases h11:k=11∨k=12
 ·rw[if_pos h11]at h;obtain⟨ts,h, -⟩:=bO.1 h;exact⟨GI h,by omega,by omega,by omega⟩
 rw[if_neg h11]at h
 by_cases h19:k=19
 ·rw[if_pos h19]at h;obtain⟨d,hd,h⟩:=bO.1 h;obtain⟨_,h, -⟩:=dG.1 h;obtain⟨e1,e2⟩:=qO hd;exact⟨xL h,fun _=>⟨d,e1, .inl e2⟩,by omega,by omega⟩
 rw[if_neg h19]at h
 by_cases h20:k=20
 ·rw[if_pos h20]at h;obtain⟨d,hd, -⟩:=dG.1 h;exact⟨nil (by unfold gA;rw[if_pos (by omega)]),by omega,by omega,fun _=>⟨d,hd⟩⟩
 rw[if_neg h20]at h
 by_cases h21:k=21
 ·rw[if_pos h21]at h
  split at h
  ·obtain⟨_,h, -⟩:=dG.1 h;exact⟨xL h,by omega,by omega,by omega⟩
  ·cases h
 rw[if_neg h21]at h
 by_cases h22:k=22
 ·rw[if_pos h22]at h;obtain⟨d,hd,h⟩:=bO.1 h;obtain⟨_,h, -⟩:=dG.1 h;obtain⟨e1,e2⟩:=qO hd;exact⟨xL h,fun _=>⟨d,e1, .inr e2⟩,by omega,by omega⟩
 rw[if_neg h22]at h
 by_cases h23:k=23
 ·rw[if_pos h23]at h;obtain⟨ts,h, -⟩:=bO.1 h;exact⟨GI h,by omega,by omega,by omega⟩
 rw[if_neg h23]at h
 by_cases h24:k=24
 ·rw[if_pos h24]at h;obtain⟨ts,h, -⟩:=bO.1 h;exact⟨GI h,by omega,by omega,by omega⟩
 rw[if_neg h24]at h;obtain⟨_,h, -⟩:=dG.1 h;exact⟨xL h,by omega,by omega,by omega⟩
mutual
theorem XD{B:Scope}:∀(x:Ex) (d c c':Nat) (t:Ty),iD d x c=some c'→b5 P D B x=some t→∀n∈(qA x).1,callee P n
 | .mk k n s l,d,c,c',t,h,ht,m,hm=>by
  rw[iD]at h;obtain⟨c1,h1,h⟩:=bO.1 h
  split at h
  ·next hh=>
   obtain⟨a,b, -⟩:=WU hh ht;rw[qA]at hm;dsimp only at hm;rcases dH.1 hm with hm|hm
   ·split at hm
    ·next hk=>rw[gD.1 hm];exact b hk
    ·simp at hm
   ·exact XF l _ _ _ h a m hm
  ·cases h
theorem XF{B:Scope}:∀(l:List Ex) (d c c':Nat),iW d l c=some c'→(∀x∈l,∃t,b5 P D B x=some t)→∀n∈(nJ l).1,callee P n
 |[],d,c,c',h,a,m,hm=>by rw[nJ]at hm;simp at hm
 |x::l,d,c,c',h,a,m,hm=>by
  rw[iW]at h;obtain⟨c1,h1,h⟩:=bO.1 h;rw[nJ]at hm;dsimp only at hm;rcases dH.1 hm with hm|hm
  ·obtain⟨t,ht⟩:=a x gU;exact XD x _ _ _ t h1 ht m hm
  ·exact XF l _ _ _ h (fun y hy=>a y (iO _ hy)) m hm
end
theorem NL{B B':Scope}{k:Int}{s:aF}{x:Ex}{b e:List St}(h:mK P D B (.mk k s x b e)=some B'):(k≠6→∃t,b5 P D B x=some t)∧(k=3∨k=4→(e8 P D ([]::B) b).isSome=true)∧(k=3→(e8 P D ([]::B) e).isSome=true):=by
 have hs:∀{o:Option Ty} {t:Ty} {u:Unit},same o t=some u→∃t,o=some t:=fun h=>by
  unfold same at h;obtain⟨v,hv, -⟩:=bO.1 h;exact⟨v,hv⟩
 rw[mK]at h
 by_cases h1:k=1
 ·rw[if_pos h1]at h;obtain⟨t,ht, -⟩:=bO.1 h;exact⟨fun _=>⟨t,ht⟩,by omega,by omega⟩
 rw[if_neg h1]at h
 by_cases h2:k=2
 ·rw[if_pos h2]at h;obtain⟨t, -,h⟩:=bO.1 h;obtain⟨_,h, -⟩:=dG.1 h;exact⟨fun _=>hs h,by omega,by omega⟩
 rw[if_neg h2]at h
 by_cases h34:k=3∨k=4
 ·rw[if_pos h34]at h;obtain⟨_,ha,h⟩:=bO.1 h;obtain⟨_,hb,h⟩:=bO.1 h;refine⟨fun _=>hs ha,fun _=>by rw[hb];rfl,fun h3=>?_⟩;rw[if_neg (by omega)]at h;obtain⟨_,h, -⟩:=dG.1 h;rw[h];rfl
 rw[if_neg h34]at h
 by_cases h5:k=5
 ·rw[if_pos h5]at h
  split at h
  ·obtain⟨_,h, -⟩:=dG.1 h;exact⟨fun _=>hs h,by omega,by omega⟩
  ·cases h
 rw[if_neg h5]at h
 by_cases h6:k=6
 ·exact⟨fun h=>absurd h6 h,by omega,by omega⟩
 rw[if_neg h6]at h
 by_cases h7:k=7
 ·rw[if_pos h7]at h;obtain⟨t, -,h⟩:=bO.1 h;obtain⟨_,h, -⟩:=dG.1 h;exact⟨fun _=>hs h,by omega,by omega⟩
 rw[if_neg h7]at h
 by_cases h8:k=8
 ·rw[if_pos h8]at h;obtain⟨t,ht, -⟩:=bO.1 h;exact⟨fun _=>⟨t,ht⟩,by omega,by omega⟩
 rw[if_neg h8]at h;obtain⟨t,ht, -⟩:=dG.1 h;exact⟨fun _=>⟨t,ht⟩,by omega,by omega⟩
mutual
theorem aHS:∀(x:St) (B:Scope) (d c c':Nat) (B':Scope),jO d x c=some c'→mK P D B x=some B'→∀n∈(sD x).calls,callee P n
 | .mk k s x b e,B,d,c,c',B',h,ht,m,hm=>by
  obtain⟨p1,p2,p3⟩:=NL ht;rw[jO]at h;obtain⟨c1,h1,h⟩:=bO.1 h
  split at h
  ·rw[sD]at hm;unfold Us.add at hm;dsimp only at hm;rw[Jk,dH,dH]at hm
   by_cases h6:k=6
   ·rw[if_pos h6,if_neg (by omega),if_neg (by omega)]at hm;rcases hm with hm|hm|hm<;>exact absurd hm (by show¬m∈([]:List aF);simp)
   ·rw[if_neg h6]at h;obtain⟨c2,h2,h⟩:=bO.1 h;obtain⟨c3,h3,h⟩:=bO.1 h;rcases hm with hm|hm|hm
    ·rw[if_neg h6]at hm;obtain⟨t,ht⟩:=p1 h6;exact XD x _ _ _ t h2 ht m hm
    ·by_cases h34:k=3∨k=4
     ·rw[if_pos h34]at hm h3
      split at h3
      ·cases h3
      ·obtain⟨B2,hB2⟩:=lN.1 (p2 h34);exact GL b _ _ _ _ B2 h3 hB2 m hm
     ·rw[if_neg h34]at hm;exact absurd hm (by show¬m∈([]:List aF);simp)
    ·by_cases h33:k=3
     ·rw[if_pos h33]at hm h
      split at h
      ·cases h
      ·obtain⟨B2,hB2⟩:=lN.1 (p3 h33);exact GL e _ _ _ _ B2 h hB2 m hm
     ·rw[if_neg h33]at hm;exact absurd hm (by show¬m∈([]:List aF);simp)
  ·cases h
theorem GL:∀(l:List St) (B:Scope) (d c c':Nat) (B':Scope),dZ d l c=some c'→e8 P D B l=some B'→∀n∈(cT l).calls,callee P n
 |[],B,d,c,c',B',h,ht,m,hm=>by rw[cT]at hm;exact absurd hm (by show¬m∈([]:List aF);simp)
 |x::l,B,d,c,c',B',h,ht,m,hm=>by
  rw[dZ]at h;obtain⟨c1,h1,h⟩:=bO.1 h;rw[e8]at ht;obtain⟨B1,t1,ht⟩:=bO.1 ht;rw[cT]at hm;unfold Us.add at hm;rcases dH.1 hm with hm|hm
  ·exact aHS x _ _ _ _ B1 h1 t1 m hm
  ·exact GL l _ _ _ _ B' h ht m hm
end
theorem XB(hB:∀d∈P,mB P d=true):∀(l:List Df) (c c':Nat),(∀d∈l,d∈P)→kW l c=some c'→∀d∈l,d.kind≠1→∀n∈(cT d.body).calls,callee P n
 |[],_,_,_,_,d,hd=>by simp at hd
 |x::l,c,c',hl,h,d,hd=>by
  rw[kW]at h;obtain⟨c1,h1,h⟩:=bO.1 h;rcases eB.1 hd with rfl|hd
  ·intro hk n hn;have hb:=hB d (hl d gU);unfold mB at hb;rw[decide_eq_false hk,Bool.false_or]at hb;obtain⟨B',hB'⟩:=lN.1 hb;unfold nX at h1;obtain⟨c2, -,h1⟩:=bO.1 h1
   split at h1
   ·split at h1
    ·cases h1
    ·exact GL d.body _ _ _ _ B' h1 hB' n hn
   ·cases h1
  ·exact XB hB l _ _ (fun e he=>hl e (iO _ he)) h d hd
theorem aF8(h:shaped P=true)(hB:∀d∈P,mB P d=true):∀d∈P,d.kind≠1→∀n∈(cT d.body).calls,callee P n:=by
 unfold shaped at h;rw[JX]at h;obtain⟨c,hc⟩:=lN.1 h.2;exact XB hB P _ _ (fun d hd=>hd) hc
end
end Fr
end Go.Proofs.YtofckcabpchcmaaGreatDoor
