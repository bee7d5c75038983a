/- Package sema, walked: heads of definitions. -/
import Derived.Test.YtofckcabpchcmaaGreatDoorM37
set_option linter.unusedVariables false
set_option linter.unusedSimpArgs false
set_option linter.unusedSectionVars false
set_option maxRecDepth 100000
namespace Go.Proofs.YtofckcabpchcmaaGreatDoor
namespace Vw
open Go.RowKit Img
attribute [local irreducible] aE aG End aB Still aN aU RunT Fn aS
abbrev vO(p:Fr.Pm):aH×Int:=(p.name,1)
theorem LR(l:List Fr.Pm)(s:aH):bG (l.map vO) s=if s∈l.map (·.name)then some 1 else none:=by
 induction l with
 |nil=>rfl
 |cons p l ih=>
  rw[fI,fI,bG,ih]
  by_cases h:p.name=s
  ·simp[h]
  ·rw[if_neg h];simp only[cY,show(s=p.name)=False from propext ⟨fun h'=>h h'.symm,False.elim⟩,false_or]
theorem aDO{α:Type}(l:List (aH×α))(s:aH)(a:α):bG (jG l s a) s=some a:=by
 induction l with
 |nil=>simp[jG,bG]
 |cons p l ih=>
  obtain⟨q,b⟩:=p
  by_cases h:q=s
  ·simp[jG,bG,h]
  ·simp[jG,bG,h,ih]
abbrev GJ(n:Int):Value:= .int .i64 n
def VA(s:SE):Prop:=(s.D.kind=2∨s.D.kind=3)→(s.D.params.map (·.name)).Nodup∧∀p∈s.D.params,Fr.gA s.P p.type=true
theorem aCQ(P:List Fr.Df)(d:Fr.Df):Fr.gR P d=true↔((d.kind=2∨d.kind=3)→(d.params.map (·.name)).Nodup∧∀p∈d.params,Fr.gA P p.type=true)∧(d.kind=3→Fr.cV d.aP=true)∧(d.kind≠4→Fr.cV d.type=true):=by
 unfold Fr.gR;rw[show(d.params.all fun p=>Fr.gA P p.type)=decide (∀p∈d.params,Fr.gA P p.type=true) by rw[sA];simp];generalize Fr.cV d.aP=p2;generalize Fr.cV d.type=p3
 by_cases h2:d.kind=2<;>by_cases h3:d.kind=3<;>by_cases h4:d.kind=4<;>cases p2<;>cases p3<;>by_cases h5:(d.params.map (·.name)).Nodup<;>by_cases h6:∀p∈d.params,Fr.gA P p.type=true<;>simp[h2,h3,h4,h5,h6]<;>omega
theorem SE.Ok.gA{cs:List Chunk}{s:SE}(ok:SE.Ok cs s)(t:Fr.Ty):Fr.gA s.P t=(Fr.cV t||isKind s.x 3 (bG s.ns t.gen)):=by
 unfold Fr.gA
 cases hk:isKind s.x 3 (bG s.ns t.gen)with
 |false=>rw[ok.E3 hk];rfl
 |true=>obtain⟨i, -, -, -,h⟩:=ok.E4 hk;rw[h];rfl
set_option maxHeartbeats 1000000 in
theorem aFa(cs:List Chunk)(s:SE)(ok:SE.Ok cs s)(h6:(s.x.l.getD s.di default).kind=2∨(s.x.l.getD s.di default).kind=3→(s.x.l.getD s.di default).params.length≤6):Fn Tryz.prog 160 #[ptr s.p,fD s.x s.di] [bX cs,cF] (j3 s.p s.mb s.x s.ns) (σ:=Int) (fun e=>e=0↔Fr.gR s.P s.D=true) (fun e=> .int .i64 e) (fun _=>j3 s.p s.mb s.x s.ns):=by
 have hi:=ok.kQ.at ok.di;have hiff:=aCQ s.P s.D;have hpk:((s.D.kind=2∨s.D.kind=3)→(s.D.params.map (·.name)).Nodup∧∀p∈s.D.params,Fr.gA s.P p.type=true)↔VA s:=Iff.rfl;rw[hpk]at hiff;obtain⟨d,de⟩:∃d,s.x.l.getD s.di default=d:=⟨_,rfl⟩;have hDk:s.D.kind=d.kind:=by rw[←de];rfl
 have hDp:s.D.params=d.params:=by rw[←de];rfl
 rw[show s.D.aP=d.aP by rw[←de];rfl,show s.D.type=d.type by rw[←de];rfl,hDk]at hiff;rw[de]at hi h6;have hD:=hi.has;have hp:=hi.uE;refine JE [ptr s.p,fD s.x s.di] Tryz.func160 Tryz.ntmps160 fun w S=>?_;refine aI ?_;apply aE.op aV;refine aB.pO (κ:=aH) GJ aV fun mb=>?_;refine aI ?_;refine Q7 (σ:=Unit) (fun _=>VA s) (fun _=>[(0,ptr s.p),(1,fD s.x s.di),(4, .int .i64 0)]) (fun _=>aO w S::bX cs::cF::j3 s.p s.mb s.x s.ns) ?_ ?_
 ·intro _ hps;refine Jn ?_
  by_cases k3:d.kind=3
  ·refine n7 ?_;refine bU (vW d.aP) fun u hu=>?_;rcases rF (Fr.cV d.aP)with h1|h1
   ·have h1':(!Fr.cV d.aP)=false:=by rw[h1];rfl
    refine n7 ?_;refine bU (vW d.type) fun u hu=>?_;rcases rF (Fr.cV d.type)with h2|h2
    ·refine n7 ?_;exact End.aX 0 (he:=rfl) (hp:=⟨fun _=>hiff.2 ⟨hps,fun _=>h1,fun _=>h2⟩,fun _=>rfl⟩)
    ·refine n7 ?_;exact End.aX 9 (he:=rfl) (hp:=⟨fun h=>absurd h aK,fun h=>by rw[(hiff.1 h).2.2 aA]at h2;cases h2⟩)
   ·have h1':(!Fr.cV d.aP)=true:=by rw[h1];rfl
    refine n7 ?_;exact End.aX 9 (he:=rfl) (hp:=⟨fun h=>absurd h aK,fun h=>by rw[(hiff.1 h).2.1 k3]at h1;cases h1⟩)
  by_cases k4:d.kind=4
  ·refine n7 ?_;exact End.aX 0 (he:=rfl) (hp:=⟨fun _=>hiff.2 ⟨hps,fun h=>absurd h k3,fun h=>absurd k4 h⟩,fun _=>rfl⟩)
  ·refine n7 ?_;refine bU (vW d.type) fun u hu=>?_;rcases rF (Fr.cV d.type)with h2|h2
   ·refine n7 ?_;exact End.aX 0 (he:=rfl) (hp:=⟨fun _=>hiff.2 ⟨hps,fun h=>absurd h k3,fun _=>h2⟩,fun _=>rfl⟩)
   ·refine n7 ?_;exact End.aX 9 (he:=rfl) (hp:=⟨fun h=>absurd h aK,fun h=>by rw[(hiff.1 h).2.2 k4]at h2;cases h2⟩)
 ·intro K' hK
  by_cases k23:d.kind=2∨d.kind=3
  rotate_left
  ·refine aI ?_;refine End.some_ hK () ?_;exact fun h=>absurd (hDk▸h) k23
  have h6:=h6 k23;have hc:∀{A:Prop},(d.kind=2→A)→(d.kind=3→A)→A:=fun a b=>k23.elim a b;refine hc (fun k2=>?_) (fun k3=>?_)
  all_goals
   refine aI ?_;refine cK (σ:=Nat) (fun j=>j≤d.params.length∧((d.params.take j).map (·.name)).Nodup∧∀p∈d.params.take j,Fr.gA s.P p.type=true) (fun j=>[(0,ptr s.p),(1,fD s.x s.di),(4, .int .i64 0),(5, .map (some mb)),(25, .slice d.po d.params.length d.pc),(26, .int .i64 d.params.length),(27, .int .i64 j)]) (fun j=>aO w S::bX cs::cF::mp mb GJ ((d.params.take j).map vO)::j3 s.p s.mb s.x s.ns) (fun j=>d.params.length-j) 0 ?_ fun j hj K hK2=>?_
   ·exact⟨bQ _,aW,aW⟩
   refine Jn ?_;obtain⟨hj,hnd,hok⟩:=hj
   by_cases hlt:j<d.params.length
   rotate_left
   ·have hje:d.params.take j=d.params:=kN aA;rw[hje]at hnd hok;refine aI ?_;refine End.some_ hK () ?_;exact fun _=>by rw[hDp];exact⟨hnd,hok⟩
   have hpj:=Has.elem hp hlt;have htk:=mM hlt
   by_cases hin:(d.params.getD j default).name∈(d.params.take j).map (·.name)
   ·have hm:bG ((d.params.take j).map vO) (d.params.getD j default).name=some 1:=by rw[LR,if_pos hin]
    repeat(refine Fm ?_;try intro b)
    apply aE.op aV;refine aB.rO (g:=GJ) (a:=2) (k:=?_);have hm2:=aDO ((d.params.take j).map vO) (d.params.getD j default).name 2;refine aI ?_;refine End.aX 7 (he:=rfl) (hp:=⟨fun h=>absurd h aK,fun h=>?_⟩);have hn:=((hiff.1 h).1 (hDk▸k23)).1;rw[hDp]at hn;have hn2:=((List.take_sublist (j+1) d.params).map (·.name)).nodup hn;rw[htk,Jq]at hn2;exact absurd rfl ((r9.1 hn2).2.2 _ hin _ aW)
   ·have hm:bG ((d.params.take j).map vO) (d.params.getD j default).name=none:=by rw[LR,if_neg hin]
    repeat(refine Fm ?_;try intro b)
    apply aE.op aV;refine aB.rO (g:=GJ) (a:=1) (k:=?_);rw[pQ _ _ _ hm,show(d.params.take j).map vO ++[((d.params.getD j default).name,(1:Int))]=(d.params.take (j+1)).map vO by rw[htk,Jq];rfl];have hnd2:((d.params.take (j+1)).map (·.name)).Nodup:=by
     rw[htk,Jq];exact r9.2 ⟨hnd,aW,fun a ha b hb=>by rw[List.map_singleton,dY]at hb;exact fun h=>hin (by rw[←hb,←h];exact ha)⟩
    have hm2:bG ((d.params.take (j+1)).map vO) (d.params.getD j default).name=some 1:=by rw[LR,if_pos (by rw[htk];simp)]
    refine aI ?_;refine bU (aFg s.p s.mb cs s.x ok.kQ s.ns ok.lt (d.params.getD j default).type) fun e he=>?_;rw[←ok.gA]at he
    by_cases h0:e=0
    ·subst h0;refine aI ?_;refine End.bK hK2 (j+1) ⟨hlt,hnd2,fun p hp'=>?_⟩ aA;rw[htk]at hp';rcases dF.1 hp' with hp'|hp'
     ·exact hok p hp'
     ·rw[dY.1 hp'];exact he.1 rfl
    ·have h0':decide (e=0)=false:=decide_eq_false h0;refine aI ?_;refine End.aX e (he:=rfl) (hp:=⟨fun h=>absurd h h0,fun h=>?_⟩);exact he.2 (((hiff.1 h).1 (hDk▸k23)).2 _ (by rw[hDp];exact dW hlt))
abbrev wH(p:Fr.Pm):aH×Fr.Ty:=(p.name,Fr.bare p.type)
theorem LQ{α β:Type}(f:β→aH×α)(l:List β)(s:aH)(h:s∉l.map fun p=>(f p).1):bG (l.map f) s=none:=by
 induction l with
 |nil=>rfl
 |cons p l ih=>
  simp only[fI,cY,not_or]at h;rw[fI,bG,if_neg (fun e=>h.1 e.symm),ih h.2]
theorem GL{P:List Fr.Df}{t:Fr.Ty}(h:Fr.gA P t=true):Fr.gA P (Fr.bare t)=true:=by
 cases hp:Fr.cV t with
 |true=>exact Fr.AS (Fr.AR hp)
 |false=>unfold Fr.bare;rw[if_neg (by rw[hp];simp)];exact h
abbrev j0(d:DL):List (aH×Fr.Ty):=if d.kind=4 then []else d.params.map wH
set_option maxHeartbeats 1000000 in
theorem aF6(cs:List Chunk)(s:SE)(ok:SE.Ok cs s)(hH:∀d∈s.P,Fr.gR s.P d=true)(hk:1≤(s.x.l.getD s.di default).kind∧(s.x.l.getD s.di default).kind≤4)(h6:(s.x.l.getD s.di default).kind=2∨(s.x.l.getD s.di default).kind=3→(s.x.l.getD s.di default).params.length≤6)
  (hS:(s.x.l.getD s.di default).kind≠1→(s.x.l.getD s.di default).body.length≤50∧aM.iK (s.x.l.getD s.di default).body 2):Fn Tryz.prog 161 #[ptr s.p,fD s.x s.di] [bX cs,cF] (j3 s.p s.mb s.x s.ns) (σ:=Int) (fun e=>e=0↔Fr.mC s.P s.D=true) (fun e=> .int .i64 e) (fun _=>j3 s.p s.mb s.x s.ns):=by
 have hi:=ok.kQ.at ok.di;have hHD:=hH _ (SE.IY _ ok.di);obtain⟨d,de⟩:∃d,s.x.l.getD s.di default=d:=⟨_,rfl⟩;have hbd:Fr.mC s.P s.D=(decide (d.kind=1)||(Fr.fC s.P s.D [[],j0 d] (aM.bV d.body)).isSome):=by
  unfold Fr.mC;rw[show s.D=d.df by rw[←de]];rfl
 rw[de]at hi hk h6 hS hHD;have hD:=hi.has;have hp:=hi.uE;refine JE [ptr s.p,fD s.x s.di] Tryz.func161 Tryz.ntmps161 fun w S=>?_;refine Jn ?_
 by_cases k1:d.kind=1
 ·refine aI ?_;exact End.aX 0 (he:=rfl) (hp:=⟨fun _=>by rw[hbd,decide_eq_true k1];rfl,fun _=>rfl⟩)
 rw[decide_eq_false k1,Bool.false_or]at hbd;refine aI ?_;apply aE.op aV;refine aB.pO (κ:=aH) gC aV fun mb=>?_;refine Jn ?_
 repeat(refine Fm ?_;try intro b)
 obtain⟨qb,rfl⟩:=a7 b;obtain⟨sb',rfl⟩:∃x,x=b:=⟨_,rfl⟩;apply aG.imp (fun w hm=>hm.jB (b:=sb') (f:=pP) tk [⟨mb,[]⟩] (n:=1) (by simp[pP]) rfl (by unfold maxLen;omega));refine CA (σ:=Unit) (fun _=>True) (fun _=>[(0,ptr s.p),(1,fD s.x s.di),(5,ptr qb)]) (fun _=>aO w S::bX cs::cF::aF qb [ptr s.p,fD s.x s.di, .slice (some ⟨sb',0,none⟩) 1 1] 316::arr (some ⟨sb',0,none⟩) 1 1 313 pP [⟨mb,[]⟩]::mp mb gC (j0 d)::j3 s.p s.mb s.x s.ns) ?_ ?_
 ·intro _ _;refine Jn ?_;obtain⟨hbl,hbS⟩:=hS k1;have kn:SE.Kn cs ⟨qb,s.p,s.mb,s.x,s.ns,s.di,some ⟨sb',0,none⟩,1,[⟨mb,j0 d⟩]⟩:=⟨⟨ok.kQ,ok.di,ok.lt,ok.ns,aW⟩,hH,fun b hb p hp=>by
   rw[show b=j0 d from dY.1 hb]at hp;unfold j0 at hp
   split at hp
   ·cases hp
   ·obtain⟨q,hq,rfl⟩:=eY.1 hp;exact GL ((Fr.FF hHD (by show d.kind=2∨d.kind=3;omega)).2 q hq)⟩
  apply aG.imp (fun w hm=>(hm.take (show Take (mp mb gC (j0 d)) _ _ from tk)).pack (cs:=[kW ⟨mb,j0 d⟩]) (by simp[kW,gU]));refine aI ?_;rw[H5 (show List.flatMap pP [(⟨mb,[]⟩:Sc)]=List.flatMap pP [(⟨mb,j0 d⟩:Sc)]from rfl) rfl];refine dD (M4 cs d.body (fun y _=>aFf cs y) ⟨qb,s.p,s.mb,s.x,s.ns,s.di,some ⟨sb',0,none⟩,1,[⟨mb,j0 d⟩]⟩ _ _ kn hi.body hbS aW hbl) fun r hr=>?_;refine End.aX r.2 (he:=rfl) (hp:=?_);rw[hbd];obtain⟨-,⟨h3, -,h7⟩|⟨h3,h4⟩⟩:=hr
  ·exact⟨fun _=>h7,fun _=>h3⟩
  ·exact⟨fun h=>absurd h h3,fun h=>by rw[show Fr.fC s.P s.D [[],j0 d] (aM.bV d.body)=none from h4]at h;cases h⟩
 ·intro K' hK
  by_cases k4:d.kind=4
  ·rw[show j0 d=[]from if_pos k4]at hK;refine aI ?_;refine End.some_ hK () ?_;trivial
  ·have h6:=h6 aA;obtain⟨hnd, -⟩:=Fr.FF hHD (by show d.kind=2∨d.kind=3;omega);rw[show j0 d=d.params.map wH from if_neg k4]at hK;refine aI ?_;refine cK (σ:=Nat) (fun j=>j≤d.params.length) (fun j=>[(0,ptr s.p),(1,fD s.x s.di),(5,ptr qb),(27, .slice d.po d.params.length d.pc),(28, .int .i64 d.params.length),(29, .int .i64 j)]) (fun j=>aO w S::bX cs::cF::aF qb [ptr s.p,fD s.x s.di, .slice (some ⟨sb',0,none⟩) 1 1] 316::arr (some ⟨sb',0,none⟩) 1 1 313 pP [⟨mb,[]⟩]::mp mb gC ((d.params.take j).map wH)::j3 s.p s.mb s.x s.ns) (fun j=>d.params.length-j) 0 ?_ fun j hj K hK2=>?_
   ·exact bQ _
   refine Jn ?_
   by_cases hlt:j<d.params.length
   rotate_left
   ·have hje:d.params.take j=d.params:=kN aA;rw[hje];refine aI ?_;refine End.some_ hK () ?_;trivial
   have hpj:=Has.elem hp hlt;have htk:=mM hlt;have hno:bG ((d.params.take j).map wH) (d.params.getD j default).name=none:=LQ _ _ _ (fun h=>by
    have hn2:=((List.take_sublist (j+1) d.params).map (·.name)).nodup hnd;rw[htk,Jq]at hn2;exact absurd rfl ((r9.1 hn2).2.2 _ h _ aW))
   repeat(refine Fm ?_;try intro b)
   obtain⟨pb,rfl⟩:=a7 b;refine b8 12 [aF qb [ptr s.p,fD s.x s.di, .slice (some ⟨sb',0,none⟩) 1 1] 316,arr (some ⟨sb',0,none⟩) 1 1 313 pP [⟨mb,[]⟩],aF pb (oW (d.params.getD j default)) 227] 12 ?_;refine iU [0,1,2,3] ?_;refine TH 4 ?_ (hy:=by(apply Still.at_;exact rfl;exact rfl;exact Jr;exact rfl;exact rfl;exact rfl;exact zY;omega));refine iU [5,6,7,8,9] ?_;refine jF 10 (A1 (d.params.getD j default).type) fun u hu=>?_;refine JT 11 ?_;refine aB.rO (g:=gC) (a:=Fr.bare (d.params.getD j default).type) (k:=?_);refine JG ?_;refine Jn ?_;rw[pQ _ _ _ hno,show(d.params.take j).map wH ++[((d.params.getD j default).name,Fr.bare (d.params.getD j default).type)]=(d.params.take (j+1)).map wH by rw[htk,Jq];rfl];refine b6 ?_;refine aI ?_;exact End.bK hK2 (j+1) hlt aA
end Vw
section
open Go Go.RowKit
section
variable{P:Program} [eT P]{Q:Exit→Act→World→Prop}{N:Nd}{E:Env}{L F:List Chunk}{dst:Option Tmp}{ty:TypeId}{pos:String}{aft:Array Edge}{g:Option (Nat×Bool)}
theorem Still.EH{t e:TypeId}{x ix:Operand}{k:IntKind}{j:Int}{i b off n c s' b' s2 b2:Nat}{z' z2:List Value}{d2:dO}(hx:ev E x=some (.slice (some ⟨b,off,none⟩) n c))(hi:ev E ix=some (.int k j))
  (ht:bB P t=some ⟨.slice e,s',b',z'⟩) (he:bB P e=some ⟨d2,s2,b2,z2⟩) (hj:j=(i:Int)) (hlt:i<n):Still P N ⟨dst, .indexAddr t x ix,ty,pos,aft,g⟩ E L (.pointer (some ⟨b,off+i*s2,none⟩)):=fun A w hS hM=>by
 subst hj;have h0:(0:Int)≤(i:Int)∧(i:Int)<(n:Int):=aA;have hz:(sizeOf e).run P w= .ok s2 w:=(cI he).size w;simp[execOp,hS.ev hx,hS.ev hi,Instr.indexAt,asIntOf,run_underlying (cI ht).slice,h0,hz,Addr.tJ,hlt]
theorem aB.fW{σ:Type}{x:Operand}{args:List Operand}{eI:Array TypeId}{f:FuncId}{vs fst:List Value}{R pre:List Chunk}{post:σ→Prop}{val:σ→Value}{mem:σ→List Chunk}{C:Env→List Chunk→Prop}
  (spec:Fn P f (fst ++vs).toArray R pre post val mem) (k:∀s,post s→C (cP dst (val s) E) (mem s ++F)) (hx:ev E x=some (.func (.func f) fst.toArray #[]):=by exact rfl) (hv:gD E args vs:=by exact n4) (hc:fW P f=true:=by kernel_rfl) (hd:cR N dst=true:=by exact rfl)
  (t:aR pre L F:=by exact cA) (r:∀w,Reads w R F:=by intro w;exact qV):
  aB P Q N ⟨dst, .call ⟨.value x,args.toArray,eI⟩,ty,pos,aft,g⟩ E L C:=by
 intro K hK a w hs hm;have hr:(execOp a.eval ⟨dst, .call ⟨.value x,args.toArray,eI⟩,ty,pos,aft,g⟩).run P w= .ok (.enter f (fst ++vs).toArray) w:=by
  have e:args.toArray.map a.eval=vs.toArray:=by rw[←hs.nZ hv];simp
  simp only[execOp,resolve,hs.ev hx,Deferred.ofValue,Sem.run_bind,Sem.run_pure,Result.andThen_ok,e,invoke];rw[yD hc];simp
 unfold Oper.wp;rw[hr,Oper.upon_enter];refine(spec w ((hm.aP t).reads (r w))).mono ?_;rintro e w' ⟨s,h1,rfl,hx,hm'⟩;exact hK _ _ (k s h1) _ _ (hs.put _ hd) ((hm.aP t).frame hm' hx)
end
end
namespace Vw
open Go.RowKit Img
section
attribute [local irreducible] aE aG End aB Still aN aU RunT Fn aS
abbrev fK(x:cT)(j:Nat):List (aH×Nat):=(List.range j).map fun i=>((x.l.getD i default).name,i)
theorem AH{α:Type}(l:List (aH×α))(q s:aH)(a:α):bG (l ++[(q,a)]) s=(bG l s).or (if q=s then some a else none):=by
 induction l with
 |nil=>simp[bG]
 |cons p l ih=>
  obtain⟨u,b⟩:=p;rw[w9,bG,bG,ih]
  by_cases h:u=s
  ·simp[h]
  ·simp[h]
theorem C3(x:cT)(j:Nat):fK x (j+1)=fK x j ++[((x.l.getD j default).name,j)]:=by unfold fK;rw[nT,Jq];rfl
theorem GI(x:cT)(s:aH):∀j i,bG (fK x j) s=some i→i<j
 |0,i,h=>by cases h
 |j+1,i,h=>by
  rw[C3,AH]at h
  cases hm:bG (fK x j) s with
  |some k=>rw[hm]at h;cases h;have:=GI x s j _ hm;omega
  |none=>rw[hm,Option.none_or]at h;split at h<;>cases h;omega
theorem LZ(x:cT)(s:aH):∀j,j≤x.l.length→(bG (fK x j) s).map (fun i=>(x.l.getD i default).df)=((x.l.take j).map DL.df).find? fun d=>decide (d.name=s)
 |0,_=>by simp[fK,bG]
 |j+1,h=>by
  rw[C3,AH,mM aA,Jq,List.find?_append,←LZ x s j aA]
  cases bG (fK x j) s with
  |some k=>rfl
  |none=>
   by_cases hs:(x.l.getD j default).name=s
   ·rw[if_pos hs];simp[DL.df,hs,List.find?];simpa[List.getD]using hs
   ·rw[if_neg hs];simp[DL.df,List.find?];simpa[List.getD]using hs
theorem L0(x:cT)(s:aH)(j:Nat):bG (fK x j) s=none↔s∉(List.range j).map fun i=>(x.l.getD i default).name:=by
 constructor
 ·intro h hm
  induction j with
  |zero=>simp at hm
  |succ j ih=>
   rw[C3,AH]at h;rw[nT,Jq,dF]at hm
   cases hf:bG (fK x j) s with
   |some k=>rw[hf]at h;cases h
   |none=>
    rcases hm with hm|hm
    ·exact ih hf hm
    ·rw[List.map_singleton,dY]at hm;rw[hf,Option.none_or,if_pos hm.symm]at h;cases h
 ·exact fun h=>LQ (fun i=>((x.l.getD i default).name,i)) _ _ h
def nX(P:List Fr.Df):Bool:=Fr.shaped P&&decide ((P.map (·.name)).Nodup)&&(P.any fun d=>decide (d.kind=4))&&P.all (Fr.gR P)&&P.all (Fr.mC P)
structure DL.fO(d:DL):Prop where
 kind:1≤d.kind∧d.kind≤4
 uE:d.kind=2∨d.kind=3→d.params.length≤6
 body:d.kind≠1→d.body.length≤50∧aM.iK d.body 2
 cap:d.kind=1→1≤d.cap∧d.cap≤20
theorem aBS{d:DL}{c c':Nat}(h:Fr.oS d.df c=some c'):d.fO:=by
 rw[GK]at h;obtain⟨c1, -,h⟩:=bF.1 h
 split at h
 ·next hh=>
  refine⟨⟨hh.1,hh.2.1⟩,fun hk=>(hh.2.2.2.1 hk).1,fun hk=>?_,fun hk=>?_⟩
  ·rw[if_neg hk]at h
   split at h
   ·cases h
   ·exact⟨aA,G2 _ _ _ _ h⟩
  ·rw[if_pos hk]at h
   split at h
   ·cases h
   ·omega
 ·cases h
theorem RE:∀(l:List DL) (c c':Nat),Fr.lS (l.map DL.df) c=some c'→∀d∈l,d.fO
 |[],_,_,_,d,hd=>by simp at hd
 |x::l,c,c',h,d,hd=>by
  rw[fI,Fr.lS]at h;obtain⟨c1,h1,h⟩:=bF.1 h;rcases cY.1 hd with rfl|hd
  ·exact aBS h1
  ·exact RE l _ _ h d hd
theorem GZ{l:List DL}(h:Fr.shaped (l.map DL.df)=true):l.length≤30∧∀d∈l,d.fO:=by
 unfold Fr.shaped at h;rw[JX]at h;obtain⟨c,hc⟩:=lK.1 h.2;exact⟨by simpa using h.1,RE l _ _ hc⟩
abbrev M7(x:cT)(pb mb i:Nat):SE:=⟨0,pb,mb,x,fK x x.l.length,i,none,0,[]⟩
theorem M8{cs:List Chunk}{x:cT}(h:oH cs x.o x.c x.l)(pb mb i:Nat)(hi:i<x.l.length):SE.Ok cs (M7 x pb mb i):=
 ⟨h,hi,fun n j hj=>GI x n _ j hj,fun n=>by
  have:=LZ x n x.l.length (bS _);rw[pF]at this;exact this,aW⟩
abbrev O0:=(Nat×Nat)×List (aH×Nat)×Int×Int
abbrev aDq(x:cT)(r:O0):Prop:=(r.2.2.1=0∧r.2.1=fK x x.l.length∧nX (x.l.map DL.df)=true)∨(r.2.2.1≠0∧nX (x.l.map DL.df)=false)
theorem AV{α β:Type} [Inhabited α](l:List α)(f:α→β):(List.range l.length).map (fun i=>f (l.getD i default))=l.map f:=by
 refine pE aW fun i h1 h2=>?_;simp[Je (show i<l.length by simpa using h2)]
theorem aAd(x:cT)(h:¬((List.range x.l.length).map fun i=>(x.l.getD i default).name).Nodup):nX (x.l.map DL.df)=false:=by
 rw[AV x.l (·.name)]at h;unfold nX;rw[qG,show((fun x=>x.name)∘DL.df)=DL.name from rfl,decide_eq_false h];simp
theorem aAc(x:cT)(h:∀d∈x.l,d.kind≠4):nX (x.l.map DL.df)=false:=by
 unfold nX;rw[show((x.l.map DL.df).any fun d=>decide (d.kind=4))=false by
  rw[List.any_eq_false];intro d hd;obtain⟨e,he,rfl⟩:=eY.1 hd;have h1:=h e he;rw[decide_eq_false (show¬e.df.kind=4 from h1)];simp]
 simp
theorem GD{n j:Nat}{f:Nat→aH}(hn:((List.range n).map f).Nodup)(hj:j<n)(h:f j∈(List.range j).map f):False:=by
 have h2:=((List.range_sublist.2 (show j+1≤n by omega)).map f).nodup hn;rw[nT,Jq]at h2;exact absurd rfl ((r9.1 h2).2.2 _ h _ aW)
set_option maxHeartbeats 1000000 in
theorem aD6(cs:List Chunk)(x:cT)(h:oH cs x.o x.c x.l):Fn Tryz.prog 136 #[.slice x.o x.l.length x.c] [bX cs,cF] [] (σ:=O0) (aDq x) (fun r=> .tuple #[ptr r.1.1, .agg #[.int .i64 r.2.2.1, .int .i64 r.2.2.2]]) (fun r=>j3 r.1.1 r.1.2 x r.2.1):=by
 have ha:=h.arr;refine JE [.slice x.o x.l.length x.c] Tryz.func136 Tryz.ntmps136 fun w S=>?_;refine Jn ?_
 repeat(refine Fm ?_;try intro b)
 obtain⟨fb,rfl⟩:=a7 b;apply aE.op aV;refine aB.pO (κ:=aH) (fD x) aV fun mb=>?_;refine Jn ?_
 repeat(refine Fm ?_;try intro b)
 obtain⟨pb,rfl⟩:=a7 b;refine bU (ZS cs x.o x.c x.l h) fun f hf=>?_
 repeat(refine Fm ?_;try intro b)
 obtain⟨wb,rfl⟩:=a7 b;rcases hf with⟨h1, -,h2⟩|⟨h1,h2⟩
 rotate_left
 ·have h1':decide (f.1=0)=false:=decide_eq_false h1;refine aI ?_;exact End.oM ((pb,mb),[],f.1,f.2) (.inr ⟨h1,by unfold nX;rw[h2];rfl⟩) rfl
 have h1':decide (f.1=0)=true:=decide_eq_true h1;obtain⟨h30,hsh⟩:=GZ h2;refine aI ?_;refine cK (σ:=Nat×Nat) (fun z=>z.1≤x.l.length∧z.2≤z.1∧((List.range z.1).map fun i=>(x.l.getD i default).name).Nodup∧(z.2=0↔∀d∈x.l.take z.1,d.kind≠4)) (fun z=>[(0, .slice x.o x.l.length x.c),(3,ptr fb),(4,ptr pb),(6, .int .i64 z.2),(26, .int .i64 x.l.length),(27, .int .i64 z.1)]) (fun z=>aO w S::bX cs::cF::aF fb [.int .i64 0, .int .i64 0] 70::j3 pb mb x (fK x z.1)) (fun z=>x.l.length-z.1) (0,0) ?_ fun z hz K hK=>?_
 ·exact⟨bQ _,bS _,aW,aW⟩
 refine Jn ?_;obtain⟨j,t⟩:=z;obtain⟨hj,ht,hnd,hcn⟩:=hz;dsimp only at hj ht hnd hcn⊢
 by_cases hlt:j<x.l.length
 ·have hd:=(h.at hlt).has
  cases hm:bG (fK x j) (x.l.getD j default).name with
  |some i=>
   refine aI ?_;refine End.oM ((pb,mb),fK x j,7,(j:Int)) (.inr ⟨show(7:Int)≠0 by decide,?_⟩) rfl;refine aAd x fun hn=>?_;have hin:(x.l.getD j default).name∈(List.range j).map fun i=>(x.l.getD i default).name:=by
    refine yX fun hc=>?_;rw[(L0 x _ j).2 hc]at hm;cases hm
   exact GD hn hlt hin
  |none=>
   refine aI ?_;apply aE.op aV;refine aB.rO (g:=fD x) (a:=j) (k:=?_);rw[pQ _ _ _ hm,←C3];have hnd2:((List.range (j+1)).map fun i=>(x.l.getD i default).name).Nodup:=by
    rw[nT,Jq];exact r9.2 ⟨hnd,aW,fun a ha b hb=>by rw[List.map_singleton,dY]at hb;exact fun h'=>(L0 x _ j).1 hm (by rw[←hb,←h'];exact ha)⟩
   have htk:=mM hlt
   by_cases k4:(x.l.getD j default).kind=4
   ·refine aI ?_;exact End.bK hK (j+1,t+1) ⟨hlt,by dsimp only;omega,hnd2,⟨fun h=>by dsimp only at h;omega,fun h=>absurd k4 (h _ (by rw[htk];simp))⟩⟩ (by dsimp only;omega)
   ·refine aI ?_;refine End.bK hK (j+1,t) ⟨hlt,by dsimp only;omega,hnd2,?_⟩ (by dsimp only;omega);rw[htk];dsimp only;rw[hcn];exact⟨fun h d hd=>by
     rcases dF.1 hd with hd|hd
     ·exact h d hd
     ·rw[dY.1 hd];exact k4,fun h d hd=>h d (kY _ hd)⟩
 obtain rfl:j=x.l.length:=aA;rw[AV x.l (·.name)]at hnd;rw[pF]at hcn
 by_cases h0:t=0
 ·have h0':decide ((t:Int)=0)=true:=decide_eq_true aA;refine aI ?_;exact End.oM ((pb,mb),fK x x.l.length,6,(x.l.length:Int)) (.inr ⟨show(6:Int)≠0 by decide,aAc x (hcn.1 h0)⟩) rfl
 have h0':decide ((t:Int)=0)=false:=decide_eq_false aA
 repeat(refine Fm ?_;try intro b)
 obtain⟨vb,rfl⟩:=a7 b;have hany:((x.l.map DL.df).any fun d=>decide (d.kind=4))=true:=by
  cases hb:(x.l.map DL.df).any fun d=>decide (d.kind=4)with
  |true=>rfl
  |false=>
   exfalso
   refine h0 (hcn.2 fun d hd=>?_);have:=List.any_eq_false.1 hb d.df (mR hd);intro h4;rw[decide_eq_true (show d.df.kind=4 from h4)]at this;exact this rfl
 have hck:nX (x.l.map DL.df)=((x.l.map DL.df).all (Fr.gR (x.l.map DL.df))&&(x.l.map DL.df).all (Fr.mC (x.l.map DL.df))):=by
  unfold nX;rw[h2,hany,qG,show((fun x=>x.name)∘DL.df)=DL.name from rfl,decide_eq_true hnd];simp
 have bad:∀{f:Fr.Df→Bool} {i:Nat},i<x.l.length→f (x.l.getD i default).df=false→(x.l.map DL.df).all f=false:=fun{f i} hi hf=>List.all_eq_false.2 ⟨_,mR (dW hi),by rw[hf];simp⟩
 refine cK (σ:=Nat) (fun k=>k≤2∧(1≤k→(x.l.map DL.df).all (Fr.gR (x.l.map DL.df))=true)∧(2≤k→(x.l.map DL.df).all (Fr.mC (x.l.map DL.df))=true)) (fun k=>[(0, .slice x.o x.l.length x.c),(3,ptr fb),(4,ptr pb),(78, .slice (some ⟨vb,0,none⟩) 2 2),(79, .int .i64 2),(80, .int .i64 k)]) (fun k=>aO w S::bX cs::cF::aF vb [.func (.func 160) #[ptr pb] #[], .func (.func 161) #[ptr pb] #[]] 218::aF fb [.int .i64 0, .int .i64 0] 70::j3 pb mb x (fK x x.l.length)) (fun k=>2-k) 0 ?_ fun k hz2 K hK=>?_
 ·exact⟨bQ _,fun h=>aA,fun h=>aA⟩
 refine Jn ?_;obtain⟨k2,hkh,hkb⟩:=hz2;have hk3:k=0∨k=1∨k=2:=aA;rcases hk3 with rfl|rfl|rfl
 ·refine aI ?_;apply aE.op aV;refine aB.bP (h:=Still.EH (i:=0) rfl rfl rfl rfl rfl aA) (k:=?_);apply aE.op aV;refine aB.bP (h:=Still.LC (i:=0) rfl b7 tk rfl) (k:=?_);refine aI ?_;refine cK (σ:=Nat) (fun j=>j≤x.l.length∧∀i,i<j→Fr.gR (x.l.map DL.df) (x.l.getD i default).df=true) (fun j=>[(0, .slice x.o x.l.length x.c),(3,ptr fb),(4,ptr pb),(11, .func (.func 160) #[ptr pb] #[]),(78, .slice (some ⟨vb,0,none⟩) 2 2),(79, .int .i64 2),(80, .int .i64 0),(85, .int .i64 x.l.length),(86, .int .i64 j)]) (fun k=>aO w S::bX cs::cF::aF vb [.func (.func 160) #[ptr pb] #[], .func (.func 161) #[ptr pb] #[]] 218::aF fb [.int .i64 0, .int .i64 0] 70::j3 pb mb x (fK x x.l.length)) (fun j=>x.l.length-j) 0 ?_ fun j hj2 K2 hK2=>?_
  ·exact⟨bQ _,fun i h=>aA⟩
  refine Jn ?_;obtain⟨hj2,hall⟩:=hj2
  by_cases hl2:j<x.l.length
  ·have sj:=hsh _ (dW hl2);refine aI ?_;apply aE.op aV;refine aB.fW (fst:=[ptr pb]) (spec:=aFa cs (M7 x pb mb j) (M8 h pb mb j hl2) sj.uE) (fun e he=>?_);refine Jn ?_
   by_cases e0:e=0
   ·subst e0;refine aI ?_;refine End.bK hK2 (j+1) ⟨hl2,fun i hi=>?_⟩ aA;rcases wY.1 hi with hi|rfl
    ·exact hall i hi
    ·exact he.1 rfl
   ·have e0':decide (e=0)=false:=decide_eq_false e0;have hbad:Fr.gR (x.l.map DL.df) (x.l.getD j default).df=false:=by
     cases hb:Fr.gR (x.l.map DL.df) (x.l.getD j default).df with
     |false=>rfl
     |true=>exact absurd (he.2 hb) e0
    refine aI ?_;exact End.oM ((pb,mb),fK x x.l.length,e,(j:Int)) (.inr ⟨e0,by rw[hck,bad hl2 hbad];simp⟩) rfl
  ·have hal:(x.l.map DL.df).all (Fr.gR (x.l.map DL.df))=true:=pD.2 fun d hd=>by
    obtain⟨e,he,rfl⟩:=eY.1 hd;obtain⟨i,hi,rfl⟩:=pC he;have:=hall i aA;rwa [Jd,Je hi]at this
   refine aI ?_;exact End.bK hK 1 ⟨aA,fun _=>hal,fun h=>aA⟩ aA
 ·refine aI ?_;apply aE.op aV;refine aB.bP (h:=Still.EH (i:=1) rfl rfl rfl rfl rfl aA) (k:=?_);apply aE.op aV;refine aB.bP (h:=Still.LC (i:=1) rfl b7 tk rfl) (k:=?_);refine aI ?_;refine cK (σ:=Nat) (fun j=>j≤x.l.length∧∀i,i<j→Fr.mC (x.l.map DL.df) (x.l.getD i default).df=true) (fun j=>[(0, .slice x.o x.l.length x.c),(3,ptr fb),(4,ptr pb),(11, .func (.func 161) #[ptr pb] #[]),(78, .slice (some ⟨vb,0,none⟩) 2 2),(79, .int .i64 2),(80, .int .i64 1),(85, .int .i64 x.l.length),(86, .int .i64 j)]) (fun k=>aO w S::bX cs::cF::aF vb [.func (.func 160) #[ptr pb] #[], .func (.func 161) #[ptr pb] #[]] 218::aF fb [.int .i64 0, .int .i64 0] 70::j3 pb mb x (fK x x.l.length)) (fun j=>x.l.length-j) 0 ?_ fun j hj2 K2 hK2=>?_
  ·exact⟨bQ _,fun i h=>aA⟩
  refine Jn ?_;obtain⟨hj2,hall⟩:=hj2
  by_cases hl2:j<x.l.length
  ·have sj:=hsh _ (dW hl2);refine aI ?_;apply aE.op aV;refine aB.fW (fst:=[ptr pb]) (spec:=aF6 cs (M7 x pb mb j) (M8 h pb mb j hl2) (pD.1 (hkh aA)) sj.kind sj.uE sj.body) (fun e he=>?_);refine Jn ?_
   by_cases e0:e=0
   ·subst e0;refine aI ?_;refine End.bK hK2 (j+1) ⟨hl2,fun i hi=>?_⟩ aA;rcases wY.1 hi with hi|rfl
    ·exact hall i hi
    ·exact he.1 rfl
   ·have e0':decide (e=0)=false:=decide_eq_false e0;have hbad:Fr.mC (x.l.map DL.df) (x.l.getD j default).df=false:=by
     cases hb:Fr.mC (x.l.map DL.df) (x.l.getD j default).df with
     |false=>rfl
     |true=>exact absurd (he.2 hb) e0
    refine aI ?_;exact End.oM ((pb,mb),fK x x.l.length,e,(j:Int)) (.inr ⟨e0,by rw[hck,bad hl2 hbad];simp⟩) rfl
  ·have hal:(x.l.map DL.df).all (Fr.mC (x.l.map DL.df))=true:=pD.2 fun d hd=>by
    obtain⟨e,he,rfl⟩:=eY.1 hd;obtain⟨i,hi,rfl⟩:=pC he;have:=hall i aA;rwa [Jd,Je hi]at this
   refine aI ?_;exact End.bK hK 2 ⟨aA,fun _=>hkh aA,fun _=>hal⟩ aA
 ·refine aI ?_;exact End.oM ((pb,mb),fK x x.l.length,0,0) (.inl ⟨rfl,rfl,by rw[hck,hkh aA,hkb aA];rfl⟩) rfl
end
end Vw
section
open Go
theorem aAy{P:Program}{Q:Exit→Act→World→Prop}{N:Nd}{E:Env}{L:List Chunk}{c0 y c:Code}{id:Nat}{σ:Type}(ok:σ→Prop)(inv:σ→Env)(mem:σ→List Chunk)(h2:∀s,ok s→aG P Q N y (inv s) (mem s))
  (h1:∀K':Act→World→Prop,(∀s,ok s→∀a w,Sat N a (inv s)→Mem w (mem s)→K' a w)→aG P (fN P c (Exit.inBlock id (Exit.then K' Q))) N c0 E L):aG P (fN P c (Exit.inBlock id (fN P y Q))) N c0 E L:=by
 rw[show fN P y Q=Exit.then (y.wp P Q) Q by unfold fN;rfl];exact h1 _ (fun s hs a w ha hm=>h2 s hs a w ha hm)
end
namespace Vw
open Go.RowKit Img
section
attribute [local irreducible] aE aG End aB Still aN aU RunT Fn aS
structure dT where
 co:Option Addr
 cc:Nat
 cl:List aH
 so:Option Addr
 sc:Nat
 sl:List aH
 ro:Option Addr
 rc:Nat
 rl:List aH
abbrev uM(b:Nat)(u:dT):List Chunk:=[aF b [.slice u.co u.cl.length u.cc, .slice u.so u.sl.length u.sc, .slice u.ro u.rl.length u.rc] 269,arr u.co u.cl.length u.cc 9 gL u.cl,arr u.so u.sl.length u.sc 9 gL u.sl,arr u.ro u.rl.length u.rc 9 gL u.rl]
def dT.fL(u:dT)(s:Fr.Us)(v:dT):Prop:=v.cl=u.cl ++s.calls∧v.sl=u.sl ++s.iP∧v.rl=u.rl ++s.gW
def dT.Fit(u:dT)(s:Fr.Us):Prop:=u.cl.length+s.calls.length≤1000000∧u.sl.length+s.iP.length≤1000000∧u.rl.length+s.gW.length≤1000000
theorem dT.fL.trans{u v w:dT}{s t:Fr.Us}(h:u.fL s v)(g:v.fL t w):u.fL (s.add t) w:=⟨by rw[g.1,h.1,Jt];rfl,by rw[g.2.1,h.2.1,Jt];rfl,by rw[g.2.2,h.2.2,Jt];rfl⟩
theorem dT.Fit.left{u:dT}{s t:Fr.Us}(h:u.Fit (s.add t)):u.Fit s:=by
 unfold dT.Fit Fr.Us.add at *;simp only[Jl]at h;omega
theorem dT.Fit.right{u v:dT}{s t:Fr.Us}(h:u.Fit (s.add t))(g:u.fL s v):v.Fit t:=by
 unfold dT.Fit Fr.Us.add at *;obtain⟨g1,g2,g3⟩:=g;rw[g1,g2,g3];simp only[Jl]at h⊢;omega
theorem dT.fL.refl(u:dT):u.fL default u:=⟨(eS _).symm,(eS _).symm,(eS _).symm⟩
theorem Us.add_assoc(s t u:Fr.Us):(s.add t).add u=s.add (t.add u):=by
 unfold Fr.Us.add;simp[Jt]
def wK(x:Fr.Ex):Fr.Us:=⟨(Fr.oF x).1,[],(Fr.oF x).2⟩
def wL(l:List Fr.Ex):Fr.Us:=⟨(Fr.mO l).1,[],(Fr.mO l).2⟩
def wN(k:Int)(s:aH):Fr.Us:=if k=19∨k=22 then⟨[s],[],[]⟩else if k=20 then⟨[],[],[s]⟩else default
theorem aHx(x:EL):wK x.ex=(wN x.k x.s).add (wL (EL.bW x.kids)):=by
 cases x with
 |mk k n s o c l=>
  unfold wK wL wN;rw[EL.ex,Fr.oF];show Fr.Us.mk _ _ _=Fr.Us.add (if k=19∨k=22 then⟨[s],[],[]⟩else if k=20 then⟨[],[],[s]⟩else default) ⟨(Fr.mO (EL.bW l)).1,[],(Fr.mO (EL.bW l)).2⟩
  by_cases h1:k=19∨k=22
  ·rw[if_pos h1,if_pos h1,if_neg aA];rfl
  ·rw[if_neg h1,if_neg h1]
   by_cases h2:k=20
   ·rw[if_pos h2,if_pos h2];rfl
   ·rw[if_neg h2,if_neg h2];rfl
theorem aHy{l:List EL}{j:Nat}(h:j<l.length):wL (EL.bW (l.drop j))=(wK (l.getD j default).ex).add (wL (EL.bW (l.drop (j+1)))):=by
 rw[oN h,EL.bW];unfold wL wK Fr.Us.add;rw[Fr.mO];rfl
abbrev PF(cs:List Chunk)(x:EL):Prop:=∀(ub b o:Nat) (u:dT),nQ cs b o x→x.fO→u.Fit (wK x.ex)→Fn Tryz.prog 181 #[ptr ub, .pointer (some ⟨b,o,none⟩)] [bX cs] (uM ub u) (σ:=dT) (u.fL (wK x.ex)) (fun _=> .tuple #[]) (fun v=>uM ub v)
set_option maxHeartbeats 1000000 in
theorem X8(cs:List Chunk)(x:EL):PF cs x:=by
 refine EL.ind (p:=PF cs) (fun x ih ub xb o u hx hS hf=>?_) x;have hX:=hx.has;have ha:=hx.arr;obtain⟨kl,kh, -,h6⟩:=hS.len;have hdef:=aHx x;rw[hdef]at hf⊢;refine JE [ptr ub, .pointer (some ⟨xb,o,none⟩)] Tryz.func181 Tryz.ntmps181 fun w S=>?_;refine aI ?_;refine aAy (σ:=dT) (fun v=>u.fL (wN x.k x.s) v) (fun _=>[(0,ptr ub),(1, .pointer (some ⟨xb,o,none⟩))]) (fun v=>aO w S::bX cs::uM ub v) ?_ ?_
 ·intro v hv;refine Jn ?_;have hf2:=hf.right hv;clear hf;refine aI ?_;refine cK (σ:=Nat×dT) (fun z=>z.1≤x.kids.length∧z.2.Fit (wL (EL.bW (x.kids.drop z.1)))∧∀r,z.2.fL (wL (EL.bW (x.kids.drop z.1))) r→u.fL ((wN x.k x.s).add (wL (EL.bW x.kids))) r) (fun z=>[(0,ptr ub),(1, .pointer (some ⟨xb,o,none⟩)),(44, .int .i64 x.kids.length),(45, .int .i64 z.1)]) (fun z=>aO w S::bX cs::uM ub z.2) (fun z=>x.kids.length-z.1) (0,v) ?_ fun z hz K hK=>?_
  ·exact⟨bQ _,hf2,fun r hr=>hv.trans hr⟩
  refine Jn ?_;obtain⟨j,v2⟩:=z;obtain⟨hj,hfj,hgj⟩:=hz;dsimp only at hj hfj hgj⊢
  by_cases hlt:j<x.kids.length
  ·rw[aHy hlt]at hfj hgj;refine aI ?_;refine dD (ih _ (dW hlt) ub _ _ v2 (hx.mF hlt) (hS.kids _ (dW hlt)) hfj.left) fun v3 hv3=>?_;exact End.bK hK (j+1,v3) ⟨hlt,hfj.right hv3,fun r hr=>hgj r (hv3.trans hr)⟩ (by dsimp only;omega)
  ·refine aI ?_;exact End.dL v2 (hp:=hgj v2 (by rw[iS aA];exact dT.fL.refl v2))
 ·intro K' hK;have hu:=hf.left;clear hf hdef;unfold wN dT.Fit at hu;have hc:(x.k=19∨x.k=22)∨x.k=20∨¬(x.k=19∨x.k=22)∧¬x.k=20:=aA;rcases hc with h1|h1|⟨h1,h2⟩
  ·rw[if_pos h1]at hu;simp only[gE]at hu;rcases h1 with h1|h1
   all_goals
    refine aI ?_;refine b8 13 [bX cs,aF ub [.slice u.co u.cl.length u.cc, .slice u.so u.sl.length u.sc, .slice u.ro u.rl.length u.rc] 269] 14 ?_;refine gP [0,1,2,3,4,5,6,7] ?_;refine gDl [8] ?_;refine iF 9 fun b=>?_;(refine JT 10 ?_;refine aB.jN (a:=x.s) (k:=?_);intro ao cap;refine JG ?_;refine Jn ?_);refine gP [11,12] ?_;refine gWl [13] ?_;refine b6 ?_;refine aI ?_;rw[show u.cl.length+1=(u.cl ++[x.s]).length by simp];refine End.some_ hK ⟨ao,cap,u.cl ++[x.s],u.so,u.sc,u.sl,u.ro,u.rc,u.rl⟩ ?_;unfold wN;rw[if_pos aA];exact⟨rfl,(eS _).symm,(eS _).symm⟩
  ·rw[if_neg aA,if_pos h1]at hu;simp only[gE]at hu;refine aI ?_;refine b8 13 [bX cs,aF ub [.slice u.co u.cl.length u.cc, .slice u.so u.sl.length u.sc, .slice u.ro u.rl.length u.rc] 269] 14 ?_;refine gP [0,1,2,3,4,5,6,7] ?_;refine gDl [8] ?_;refine iF 9 fun b=>?_;(refine JT 10 ?_;refine aB.jN (a:=x.s) (k:=?_);intro ao cap;refine JG ?_;refine Jn ?_);refine gP [11,12] ?_;refine gWl [13] ?_;refine b6 ?_;refine aI ?_;rw[show u.rl.length+1=(u.rl ++[x.s]).length by simp];refine End.some_ hK ⟨u.co,u.cc,u.cl,u.so,u.sc,u.sl,ao,cap,u.rl ++[x.s]⟩ ?_;unfold wN;rw[if_neg aA,if_pos h1];exact⟨(eS _).symm,(eS _).symm,rfl⟩
  ·refine aI ?_;refine End.some_ hK u ?_;unfold wN;rw[if_neg h1,if_neg h2];exact dT.fL.refl u
theorem aHz(x:aM):Fr.rA x.st=(⟨[],if x.k=7 then [x.s]else [],[]⟩:Fr.Us).add ((if x.k=6 then default else wK x.x.ex).add ((if x.k=3∨x.k=4 then Fr.cD (aM.bV x.body)else default).add (if x.k=3 then Fr.cD (aM.bV x.fJ)else default))):=by
 cases x;rw[aM.st,Fr.rA,Us.add_assoc];rfl
theorem aIA{l:List aM}{j:Nat}(h:j<l.length):Fr.cD (aM.bV (l.drop j))=(Fr.rA (l.getD j default).st).add (Fr.cD (aM.bV (l.drop (j+1)))):=by
 rw[oN h,aM.bV,Fr.cD]
abbrev zF(cs:List Chunk)(l:List aM):Prop:=∀(ub:Nat) (a:Option Addr) (ca d:Nat) (u:dT),tI cs a ca l→aM.iK l d→l.length≤50→u.Fit (Fr.cD (aM.bV l))→
 Fn Tryz.prog 162 #[ptr ub, .slice a l.length ca] [bX cs] (uM ub u) (σ:=dT) (u.fL (Fr.cD (aM.bV l))) (fun _=> .tuple #[]) (fun v=>uM ub v)
set_option maxHeartbeats 1000000 in
theorem OA(cs:List Chunk)(l:List aM)(ih:∀x∈l,zF cs x.body∧zF cs x.fJ):zF cs l:=by
 intro ub a ca d u hl hS h50 hf;have ha:=hl.arr;refine JE [ptr ub, .slice a l.length ca] Tryz.func162 Tryz.ntmps162 fun w S=>?_;refine aI ?_;refine cK (σ:=Nat×dT) (fun z=>z.1≤l.length∧z.2.Fit (Fr.cD (aM.bV (l.drop z.1)))∧∀r,z.2.fL (Fr.cD (aM.bV (l.drop z.1))) r→u.fL (Fr.cD (aM.bV l)) r) (fun z=>[(0,ptr ub),(1, .slice a l.length ca),(7, .int .i64 l.length),(8, .int .i64 z.1)]) (fun z=>aO w S::bX cs::uM ub z.2) (fun z=>l.length-z.1) (0,u) ?_ fun z hz K hK=>?_
 ·exact⟨bQ _,hf,fun r hr=>hr⟩
 refine Jn ?_;obtain⟨j,v⟩:=z;obtain⟨hj,hfj,hgj⟩:=hz;dsimp only at hj hfj hgj⊢;clear hf
 by_cases hlt:j<l.length
 rotate_left
 ·refine aI ?_;exact End.dL v (hp:=hgj v (by rw[iS aA];exact dT.fL.refl v))
 rw[aIA hlt,aHz]at hfj hgj;have hy:=hl.mF hlt;obtain⟨ihb,ihe⟩:=ih _ (dW hlt);obtain⟨-,hhd,hxs,hbs,hes⟩:=(hS.all _ (dW hlt)).get;obtain⟨y,ey⟩:∃y,l.getD j default=y:=⟨_,rfl⟩;rw[ey]at hfj hgj hy ihb ihe hhd hxs hbs hes;obtain⟨nm, -, -,hh⟩:=FG y.k y.s;obtain⟨l1,l9, -⟩:=hh.1 hhd;have hX:=hy.has;have hE:=hy.ex;clear hh hhd nm ih;have hfa:=hfj.left;have hnx:∀v',v.fL ((⟨[],if y.k=7 then [y.s]else [],[]⟩:Fr.Us).add ((if y.k=6 then default else wK y.x.ex).add ((if y.k=3∨y.k=4 then Fr.cD (aM.bV y.body)else default).add (if y.k=3 then Fr.cD (aM.bV y.fJ)else default)))) v'→v'.Fit (Fr.cD (aM.bV (l.drop (j+1))))∧∀r,v'.fL (Fr.cD (aM.bV (l.drop (j+1)))) r→u.fL (Fr.cD (aM.bV l)) r:=fun v' h=>⟨hfj.right h,fun r hr=>hgj r (h.trans hr)⟩;clear hfj hgj
 by_cases k7:y.k=7
 ·rw[if_pos k7,if_neg aA,if_neg aA,if_neg aA]at hfa hnx;have hu:=hfa.left;unfold dT.Fit at hu;simp only[gE]at hu;refine aI ?_;refine b8 13 [bX cs,aF ub [.slice v.co v.cl.length v.cc, .slice v.so v.sl.length v.sc, .slice v.ro v.rl.length v.rc] 269] 14 ?_;refine gP [0,1,2,3,4,5,6,7] ?_;refine gDl [8] ?_;refine iF 9 fun b=>?_;(refine JT 10 ?_;refine aB.jN (a:=y.s) (k:=?_);intro ao cap;refine JG ?_;refine Jn ?_);refine gP [11,12] ?_;refine gWl [13] ?_;refine b6 ?_;rw[show v.sl.length+1=(v.sl ++[y.s]).length by simp];have g1:v.fL (⟨[],[y.s],[]⟩:Fr.Us) ⟨v.co,v.cc,v.cl,ao,cap,v.sl ++[y.s],v.ro,v.rc,v.rl⟩:=⟨(eS _).symm,rfl,(eS _).symm⟩;refine aI ?_;refine dD (X8 cs y.x ub _ _ ⟨v.co,v.cc,v.cl,ao,cap,v.sl ++[y.s],v.ro,v.rc,v.rl⟩ hE (hxs aA) (hfa.right g1).left) fun v2 hv2=>?_;obtain⟨n1,n2⟩:=hnx v2 (g1.trans (hv2.trans ((dT.fL.refl v2).trans (dT.fL.refl v2))));exact End.bK hK (j+1,v2) ⟨hlt,n1,n2⟩ (by dsimp only;omega)
 rw[if_neg k7]at hfa hnx;have hfa:=hfa.right (show v.fL (⟨[],[],[]⟩:Fr.Us) v from dT.fL.refl v);have hnx:=fun v' h=>hnx v' ((show v.fL (⟨[],[],[]⟩:Fr.Us) v from dT.fL.refl v).trans h)
 by_cases k6:y.k=6
 ·rw[if_pos k6,if_neg aA,if_neg aA]at hnx;refine aI ?_;obtain⟨n1,n2⟩:=hnx v ((dT.fL.refl v).trans ((dT.fL.refl v).trans (dT.fL.refl v)));exact End.bK hK (j+1,v) ⟨hlt,n1,n2⟩ (by dsimp only;omega)
 rw[if_neg k6]at hfa hnx;refine aI ?_;refine bU (X8 cs y.x ub _ _ v hE (hxs k6) hfa.left) fun v2 hv2=>?_;have hfa:=hfa.right hv2
 by_cases k3:y.k=3
 ·rw[if_pos aA,if_pos k3]at hfa hnx;refine aI ?_;refine dD (ihb ub _ _ _ v2 hy.body (hbs aA).2 (hbs aA).1 hfa.left) fun v3 hv3=>?_;refine dD (ihe ub _ _ _ v3 hy.fJ (hes k3).2 (hes k3).1 (hfa.right hv3)) fun v4 hv4=>?_;obtain⟨n1,n2⟩:=hnx v4 (hv2.trans (hv3.trans hv4));exact End.bK hK (j+1,v4) ⟨hlt,n1,n2⟩ (by dsimp only;omega)
 by_cases k4:y.k=4
 ·rw[if_pos aA,if_neg k3]at hfa hnx;refine aI ?_;refine dD (ihb ub _ _ _ v2 hy.body (hbs aA).2 (hbs aA).1 hfa.left) fun v3 hv3=>?_;obtain⟨n1,n2⟩:=hnx v3 (hv2.trans (hv3.trans (dT.fL.refl v3)));exact End.bK hK (j+1,v3) ⟨hlt,n1,n2⟩ (by dsimp only;omega)
 ·rw[if_neg aA,if_neg k3]at hnx;refine aI ?_;obtain⟨n1,n2⟩:=hnx v2 (hv2.trans ((dT.fL.refl v2).trans (dT.fL.refl v2)));exact End.bK hK (j+1,v2) ⟨hlt,n1,n2⟩ (by dsimp only;omega)
theorem aHk(cs:List Chunk)(l:List aM):zF cs l:=OA cs l fun x _=>aM.ind (p:=fun x=>zF cs x.body∧zF cs x.fJ) (fun x h1 h2=>⟨OA cs _ h1,OA cs _ h2⟩) x
end
end Vw
end Go.Proofs.YtofckcabpchcmaaGreatDoor
