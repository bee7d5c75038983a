/- Package gen, walked: Compile. -/
import Derived.Test.YtofckcabpchcmaaGreatDoorM42
set_option linter.unusedVariables false
set_option linter.unusedSimpArgs false
set_option linter.unusedSectionVars false
set_option maxRecDepth 100000
namespace Go.Proofs.YtofckcabpchcmaaGreatDoor
section
open Go Go.RowKit
section
variable{κ:Type}{dκ:DecidableEq κ}{iκ:cJ κ}{α:Type}{P:Program} [eT P]{Q:Exit→Act→World→Prop}{N:Nd}{E:Env}{L L':List Chunk}{dst:Option Tmp}{ty:TypeId}{pos:String}{aft:Array Edge}{gu:Option (Nat×Bool)}{t kt et s1 b1 b:Nat}{z1:List Value}{g:α→Value}{l:List (κ×α)}
theorem Still.TA{x:Operand}{t:TypeId}(hx:ev E x=some (.map (some b)))(ht:bB P t=some ⟨.map kt et,s1,b1,z1⟩)(hm:Take (mp b g l) L L'):Still P N ⟨dst, .call ⟨.builtin .len, #[x], #[t]⟩,ty,pos,aft,gu⟩ E L (.int .i64 l.length):=fun A w hs hM=>by
 obtain⟨es,ck,h1,h2,h3⟩:=uB.1 (hM.has hm);have hl:es.size=l.length:=by have:=congrArg List.length h2;simpa using this
 simp[execOp,resolve,invoke,builtin,hs.ev hx,Builtin.len_,run_underlying (cI ht).map,goInt,MapKept.run_getObj_map h1,hl]
theorem aG.AG{c:Code}(t:Take (mp b g l) L L')(h:∀bs ck,aG P Q N c E (mpr b g l bs ck::L')):aG P Q N c E L:=fun a w hs hm=>by
 obtain⟨bs,ck,h2⟩:=hm.AG t;exact h bs ck a w hs h2
end
section
variable{P:Program} [eT P]{N:Nd}{E:Env}{L L' L2 F:List Chunk}{σ:Type}{fn:Func}{post:σ→Prop}{val:σ→Value}{mem:σ→List Chunk}{w0:World}{S:Nat→Prop}
theorem End.ET{t u:Tmp}{ty bt ty2 bt2:TypeId}{b s' b' b2 s2' b2':Nat}{fs fs2:List (Nat×TypeId)}{z' z2' cs cs2:List Value}(x:σ)(hp:post x)(he:val x= .tuple #[.agg cs.toArray, .agg cs2.toArray])(hr:fn.results= #[.cell t ty, .cell u ty2]:=by exact rfl)(hv:look E t=Option.some (.pointer (Option.some ⟨b,0,none⟩)):=by exact rfl)(hu:look E u=Option.some (.pointer (Option.some ⟨b2,0,none⟩)):=by exact rfl)
  (ht:bB P ty=Option.some ⟨.struct fs,s',b',z'⟩:=by exact rfl) (ht2:bB P ty2=Option.some ⟨.struct fs2,s2',b2',z2'⟩:=by exact rfl) (hm:Take (aF b cs bt) L L':=by exact tk) (hm2:Take (aF b2 cs2 bt2) L L2:=by exact tk) (hl:cs.length=s':=by exact rfl) (hl2:cs2.length=s2':=by exact rfl) (hx:∀c∈mem x,c.bE=true:=by exact pM) (hF:aR (aO w0 S::mem x) L F:=by exact cA) (hD:N.ds=[]:=by exact rfl):
  End (bodyPost P fn (eJ post val mem w0 S)) N .ret E L:=fun a w hs hM=>by
 have hb:=jO.1 (hM.has hm);have hb2:=jO.1 (hM.has hm2);have h1:=hs.slot t _ hv;have h2:=hs.slot u _ hu;refine bodyPost_ret (v:= .tuple #[.agg cs.toArray, .agg cs2.toArray]) ?_ (hs.defs.trans hD) ⟨x,hp,by rw[he],hx,(hM.aP hF).left⟩;simp[results,hr,h1,h2,asAddr,uL ht hb hl,uL ht2 hb2 hl2]
end
end
namespace Vw
open Go.RowKit Img
section
attribute [local irreducible] aE aG End aB Still aN aU RunT Fn aS
theorem QH(l:List DL)(d:DL):lM (l ++[d])=if d.kind=1 then lM l ++[(d.name,(lM l).length)]else lM l:=by
 unfold lM;rw[qD]
 by_cases h:d.kind=1
 ·rw[if_pos h];simp[h,List.zipIdx_append]
 ·rw[if_neg h];simp[h]
theorem YA(l:List DL)(d:DL):fG (l ++[d])=if d.kind=1 then fG l else fG l ++[(d.name,(fG l).length)]:=by
 unfold fG;rw[qD]
 by_cases h:d.kind=1
 ·rw[if_pos h];simp[h]
 ·rw[if_neg h];simp[h,List.zipIdx_append]
theorem aAP{l:List DL}{s:aH}(h:s∉l.map (·.name)):bG (lM l) s=none:=by
 unfold lM;rw[GA];rw[List.findIdx?_eq_none_iff.2 (fun x hx=>by
  obtain⟨d,hd,rfl⟩:=eY.1 hx;exact decide_eq_false fun e=>h (by rw[←e];exact mR ((mA.1 hd).1)))]
 rfl
theorem aHm{l:List DL}{s:aH}(h:s∉l.map (·.name)):bG (fG l) s=none:=by
 unfold fG;rw[GA];rw[List.findIdx?_eq_none_iff.2 (fun x hx=>by
  obtain⟨d,hd,rfl⟩:=eY.1 hx;exact decide_eq_false fun e=>h (by rw[←e];exact mR ((mA.1 hd).1)))]
 rfl
theorem aAO(l:List DL):(lM l).length≤l.length:=by unfold lM;rw[List.length_zipIdx,Jf];exact nS _ _
theorem aHl(l:List DL):(fG l).length≤l.length:=by unfold fG;rw[List.length_zipIdx,Jf];exact nS _ _
abbrev qQ(m:ML):List Chunk:=arr m.bo m.bx.length m.bc 91 jE m.bx::arr m.uo m.us.length m.uc 88 m6 m.us::m.us.flatMap j8
abbrev aAg(x:cT)(r:ML×Int×Int):Prop:=(r.2.1=0∧r.2.2=0∧Fr.compile (x.l.map DL.df)=some r.1.aC)∨(r.2.1≠0∧Fr.compile (x.l.map DL.df)=none)
abbrev aAh(r:ML×Int×Int):Value:= .tuple #[r.1.val, .agg #[.int .i64 r.2.1, .int .i64 r.2.2]]
theorem TW(m:ML):∀c∈qQ m,c.bE=true:=fun c hc=>by
 rcases cY.1 hc with rfl|hc
 ·exact dU
 ·rcases cY.1 hc with rfl|hc
  ·exact dU
  ·obtain⟨u, -,hu⟩:=qF.1 hc;simp only[j8,cY,List.not_mem_nil,or_false]at hu;rcases hu with rfl|rfl<;>exact dU
theorem Mem.GF{w:World}{L:List Chunk}(h:Mem w L):Mem w (bC (qQ ⟨[],none,0,[],none,0⟩)::L):=Mem.pack (cs:=qQ ⟨[],none,0,[],none,0⟩) ((h.cU 88 m6).cU 91 jE) (TW _)
abbrev tK(P:List Fr.Df)(d:DL):Int×Int:=(Fr.bO P d.type,d.cap)
def cZ(x:cT)(j:Nat):List (Int×Int):=((x.l.take j).filter fun d=>decide (d.kind=1)).map (tK (x.l.map DL.df))
theorem aAU(x:cT){j:Nat}(hj:j<x.l.length)(h:(x.l.getD j default).kind=1):cZ x (j+1)=cZ x j ++[tK (x.l.map DL.df) (x.l.getD j default)]:=by
 unfold cZ;rw[mM hj,qD,Jq];congr 1;rw[l0,if_pos (decide_eq_true h)];rfl
theorem aAT(x:cT){j:Nat}(hj:j<x.l.length)(h:¬(x.l.getD j default).kind=1):cZ x (j+1)=cZ x j:=by
 unfold cZ;rw[mM hj,qD,Jq,l0,if_neg (by rw[decide_eq_false h];simp)];exact eS _
theorem aAS(x:cT)(j:Nat):(cZ x j).length≤j:=by
 unfold cZ;rw[Jf];have:=nS (fun d:DL=>decide (d.kind=1)) (x.l.take j);rw[jM]at this;omega
theorem Mem.TV{w:World}{L L1 L2 L3:List Chunk}(m:ML)(h:Mem w L)(t1:Take (arr m.bo m.bx.length m.bc 91 jE m.bx) L L1)(t2:Take (arr m.uo m.us.length m.uc 88 m6 m.us) L1 L2)(t3:Take (bC (m.us.flatMap j8)) L2 L3):Mem w (bC (qQ m)::L3):=by
 have h1:Mem w ([arr m.bo m.bx.length m.bc 91 jE m.bx,arr m.uo m.us.length m.uc 88 m6 m.us,bC (m.us.flatMap j8)] ++L3):=h.aP (.cons t1 (.cons t2 (.cons t3 .nil)));have h2:Mem w ([arr m.bo m.bx.length m.bc 91 jE m.bx,arr m.uo m.us.length m.uc 88 m6 m.us] ++bC (m.us.flatMap j8)::L3):=h1;exact Mem.pack (cs:=qQ m) (by simpa using Mem.BD h2) (TW m)
structure OT where
 k:Nat
 uo:Option Addr
 uc:Nat
 us:List UC
structure OU where
 j:Nat
 bo:Option Addr
 bc:Nat
set_option maxHeartbeats 4000000 in
theorem aAk(cs:List Chunk)(x:cT)(h:oH cs x.o x.c x.l):Fn Tryz.prog 23 #[.slice x.o x.l.length x.c] [bX cs,cF] [] (σ:=ML×Int×Int) (aAg x) aAh (fun r=>[bC (qQ r.1)]):=by
 have ha:=h.arr;refine JE [.slice x.o x.l.length x.c] Tryz.func23 Tryz.ntmps23 fun w S=>?_;refine Jn ?_
 repeat(refine Fm ?_;try intro b)
 obtain⟨fb,rfl⟩:=a7 b;obtain⟨mb,rfl⟩:=a7 b;refine bU (aAb cs x h) fun f hf=>?_
 repeat(refine Fm ?_;try intro b)
 obtain⟨eb,rfl⟩:=a7 b;rcases hf with⟨h1,h2,h3⟩|⟨h1,h3⟩
 rotate_left
 ·have h1':decide (f.1=0)=false:=decide_eq_false h1;refine aI ?_;refine b8 3 [aF eb [.int .i64 f.1, .int .i64 f.2] 70] 4 ?_;refine gP [0,1] ?_;refine gWl [2,3] ?_;refine b6 ?_;refine aI ?_;apply End.imp (fun w hm=>Mem.GF hm);exact End.ET (⟨[],none,0,[],none,0⟩,f.1,f.2) (.inr ⟨h1,by unfold Fr.compile;rw[h3];rfl⟩) rfl
 have h1':decide (f.1=0)=true:=decide_eq_true h1;rw[IK,JX]at h3;have hr:=aFR h3.1;have hcm:Fr.compile (x.l.map DL.df)=(if(((x.l.map DL.df).filter fun d=>!decide (d.kind=1)).map (Fr.fH (x.l.map DL.df))).any (fun u=>decide (200<u.locals.length)||decide (4000<u.code.length))=true then none else some ⟨((x.l.map DL.df).filter fun d=>decide (d.kind=1)).map fun d=>(Fr.bO (x.l.map DL.df) d.type,d.cap),((x.l.map DL.df).filter fun d=>!decide (d.kind=1)).map (Fr.fH (x.l.map DL.df))⟩):=by
  unfold Fr.compile;rw[if_pos (by rw[IK,h3.1,h3.2];rfl)]
 refine aI ?_;apply aE.op aV;refine aB.pO (κ:=aH) iW aV fun bm=>?_;refine Jn ?_;apply aE.op aV;refine aB.pO (κ:=aH) iW aV fun um=>?_;refine Jn ?_;apply aE.op aV;refine aB.pO (κ:=aH) (fD x) aV fun dm=>?_;refine Jn ?_
 repeat(refine Fm ?_;try intro b)
 obtain⟨lb,rfl⟩:=a7 b;obtain⟨tb,rfl⟩:=a7 b;have hnd:((List.range x.l.length).map fun i=>(x.l.getD i default).name).Nodup:=by
  have:=hr.nd;rw[qG]at this;rw[AV x.l (·.name)];exact this
 have hheads:=hr.gS;have hfew:=hr.eL;apply aG.imp (fun w hm=>hm.cU 91 jE);refine cK (σ:=OU) (fun z=>z.j≤x.l.length) (fun z=>[(0, .slice x.o x.l.length x.c),(2,ptr mb),(3,ptr fb),(5,ptr tb),(6,ptr lb),(23, .int .i64 x.l.length),(24, .int .i64 z.j)]) (fun z:OU=>[aO w S,bX cs,aF fb [.int .i64 0, .int .i64 0] 70,aF mb [.slice none 0 0, .slice none 0 0] 26,aF lb [.slice z.bo (cZ x z.j).length z.bc, .slice none 0 0] 26,aF tb [.map (some bm), .map (some um), .map (some dm)] 152,mp dm (fD x) (fK x z.j),mp um iW (fG (x.l.take z.j)),mp bm iW (lM (x.l.take z.j)),arr z.bo (cZ x z.j).length z.bc 91 jE (cZ x z.j)]) (fun z=>x.l.length-z.j) ⟨0,none,0⟩ ?_ fun z hz K hK=>?_
 ·exact bQ _
 refine Jn ?_;obtain⟨j,bo,bc⟩:=z;dsimp only at hz⊢
 by_cases hlt:j<x.l.length
 ·have hin:=h.at hlt;have hd:=hin.has;have htk:=mM hlt;have hno:(x.l.getD j default).name∉(List.range j).map fun i=>(x.l.getD i default).name:=fun hm=>GD hnd hlt hm;have hno2:(x.l.getD j default).name∉(x.l.take j).map (·.name):=fun hm=>hno (by
   rw[←AV (x.l.take j) (·.name)]at hm;obtain⟨i,hi,he⟩:=eY.1 hm;rw[sC,jM]at hi;refine eY.2 ⟨i,sC.2 aA,?_⟩;rw[←he,Jd,Jd,List.getElem?_take_of_lt aA])
  have hbl:=aAO (x.l.take j);have hul:=aHl (x.l.take j);rw[jM]at hbl hul;refine aI ?_;apply aE.op aV;refine aB.rO (g:=fD x) (a:=j) (k:=?_);rw[pQ _ _ _ ((L0 x _ j).2 hno),←C3]
  by_cases k1:(x.l.getD j default).kind=1
  ·have hpl:=Fr.xV (hheads _ (mR (dW hlt))) (by show(x.l.getD j default).kind≠4;omega);have hbx:lM (x.l.take (j+1))=lM (x.l.take j) ++[((x.l.getD j default).name,(lM (x.l.take j)).length)]:=by rw[htk,QH,if_pos k1]
   have hux:fG (x.l.take (j+1))=fG (x.l.take j):=by rw[htk,YA,if_pos k1]
   have hbs:=aAU x hlt k1;refine aI ?_;refine aU.bP (h:=Still.TA (g:=iW) rfl rfl tk) (k:=?_);refine aI ?_;apply aE.op aV;refine aB.rO (g:=iW) (a:=(lM (x.l.take j)).length) (k:=?_);rw[pQ _ _ _ (aAP hno2),←hbx];have hbl2:=aAS x j;refine aI ?_;refine b8 18 [aF lb [.slice bo (cZ x j).length bc, .slice none 0 0] 26,bX cs] 19 ?_;refine gP [0,1,2,3,4] ?_;refine gDl [5] ?_;refine gP [6] ?_;refine gDl [7] ?_;refine gP [9,10] ?_;refine gDl [11] ?_;refine gP [12] ?_;refine gDl [13] ?_;refine jF 8 (aCA tb (x.l.getD j default).type hpl (x.l.map DL.df)) fun u hu=>?_;refine gP [14] ?_;refine iF 15 fun b=>?_;(refine JT 16 ?_;refine aB.jN (a:=tK (x.l.map DL.df) (x.l.getD j default)) (k:=?_);intro ao cap;refine JG ?_;refine Jn ?_);refine gP [17] ?_;refine gWl [18] ?_;refine b6 ?_;refine aI ?_;rw[←hbs,←hux,show(cZ x j).length+1=(cZ x (j+1)).length by rw[hbs];simp];exact End.bK hK ⟨j+1,ao,cap⟩ hlt (by show x.l.length-(j+1)<x.l.length-j;omega)
  ·have hbx:lM (x.l.take (j+1))=lM (x.l.take j):=by rw[htk,QH,if_neg k1]
   have hux:fG (x.l.take (j+1))=fG (x.l.take j) ++[((x.l.getD j default).name,(fG (x.l.take j)).length)]:=by rw[htk,YA,if_neg k1]
   have hbs:=aAT x hlt k1;refine aI ?_;refine aU.bP (h:=Still.TA (g:=iW) rfl rfl tk) (k:=?_);refine aI ?_;apply aE.op aV;refine aB.rO (g:=iW) (a:=(fG (x.l.take j)).length) (k:=?_);rw[pQ _ _ _ (aHm hno2),←hux];refine aI ?_;rw[←hbx,←hbs];exact End.bK hK ⟨j+1,bo,bc⟩ hlt (by show x.l.length-(j+1)<x.l.length-j;omega)
 obtain rfl:j=x.l.length:=aA;rw[pF];clear hK;refine aI ?_;refine aG.AG (b:=um) (g:=iW) (l:=fG x.l) tk fun bs ck=>?_;obtain⟨g,hg⟩:∃g:GT,g=⟨tb,bm,um,dm,x,bs,ck⟩:=⟨_,rfl⟩;apply aG.imp (fun w hm=>(hm.cU 88 m6).gH);refine cK (σ:=OT) (fun z=>z.k≤x.l.length∧z.us.map (·.u)=((x.l.take z.k).filter fun d=>!decide (d.kind=1)).map (fun d=>Fr.fH (x.l.map DL.df) d.df)∧z.us.length≤z.k∧∀u∈z.us,u.u.locals.length≤200∧u.u.code.length≤4000) (fun z=>[(0, .slice x.o x.l.length x.c),(2,ptr mb),(3,ptr fb),(5,ptr tb),(6,ptr lb),(93, .int .i64 x.l.length),(94, .int .i64 z.k)]) (fun z:OT=>aO w S::((GT.mk tb bm um dm x bs ck).R cs ++([aF fb [.int .i64 0, .int .i64 0] 70,aF mb [.slice none 0 0, .slice none 0 0] 26,aF lb [.slice bo (cZ x x.l.length).length bc, .slice z.uo z.us.length z.uc] 26,arr bo (cZ x x.l.length).length bc 91 jE (cZ x x.l.length),arr z.uo z.us.length z.uc 88 m6 z.us,bC (z.us.flatMap j8)] ++(GT.mk tb bm um dm x bs ck).m))) (fun z=>x.l.length-z.k) ⟨0,none,0,[]⟩ ?_ fun z hz K hK=>?_
 ·exact⟨bQ _,aW,bS _,aW⟩
 refine Jn ?_;obtain⟨k,uo,uc,us⟩:=z;obtain⟨hk,hus,hul,hsm⟩:=hz;dsimp only at hk hus hul hsm⊢
 by_cases hlt:k<x.l.length
 rotate_left
 ·obtain rfl:k=x.l.length:=aA;rw[pF]at hus;refine aI ?_;have hus2:us.map (·.u)=((x.l.map DL.df).filter fun d=>!decide (d.kind=1)).map (Fr.fH (x.l.map DL.df)):=by
   rw[hus,xD,qG];rfl
  have hno:(us.map (·.u)).any (fun u=>decide (200<u.locals.length)||decide (4000<u.code.length))=false:=List.any_eq_false.2 fun v hv=>by
   obtain⟨u,hu,rfl⟩:=eY.1 hv;obtain⟨h1,h2⟩:=hsm u hu;rw[decide_eq_false aA,decide_eq_false aA];simp
  have hbx:cZ x x.l.length=((x.l.map DL.df).filter fun d=>decide (d.kind=1)).map fun d=>(Fr.bO (x.l.map DL.df) d.type,d.cap):=by
   unfold cZ;rw[pF,xD,qG];rfl
  rw[←hus2,hno,if_neg aW,←hbx]at hcm;apply End.imp (fun w hm=>Mem.TV ⟨cZ x x.l.length,bo,bc,us,uo,uc⟩ hm tk tk tk);exact End.ET (⟨cZ x x.l.length,bo,bc,us,uo,uc⟩,0,0) (.inl ⟨rfl,rfl,hcm⟩) rfl
 have hin:=h.at hlt;have hd:=hin.has;have htk:=mM hlt
 by_cases k1:(x.l.getD k default).kind=1
 ·refine aI ?_;refine End.bK hK ⟨k+1,uo,uc,us⟩ ⟨hlt,?_,by dsimp only;omega,hsm⟩ (by show x.l.length-(k+1)<x.l.length-k;omega);dsimp only;rw[hus,htk,qD,l0,if_neg (by rw[decide_eq_true k1];simp)];simp
 refine aI ?_;refine bU (aCB cs (GT.mk tb bm um dm x bs ck) h hr k hlt k1) fun u hu=>?_;have hmu:Fr.fH (x.l.map DL.df) (jQ x k)∈((x.l.map DL.df).filter fun d=>!decide (d.kind=1)).map (Fr.fH (x.l.map DL.df)):=mR (mA.2 ⟨mR (dW hlt),by rw[decide_eq_false (show¬(jQ x k).kind=1 from k1)];rfl⟩);have hbad:200<u.u.locals.length∨4000<u.u.code.length→Fr.compile (x.l.map DL.df)=none:=fun hb=>by
  rw[hcm,if_pos];refine uY.2 ⟨_,hmu,?_⟩;rw[show Fr.fH (x.l.map DL.df) (jQ x k)=u.u from hu.symm];rcases hb with hb|hb
  ·rw[decide_eq_true hb];rfl
  ·rw[decide_eq_true hb];simp
 repeat(refine Fm ?_;try intro b)
 obtain⟨ub,rfl⟩:=a7 b
 by_cases hl:200<u.u.locals.length
 ·refine aI ?_;apply End.imp (fun w hm=>Mem.GF hm);exact End.ET (⟨[],none,0,[],none,0⟩,5,(k:Int)) (.inr ⟨show(5:Int)≠0 by decide,hbad (.inl hl)⟩) rfl
 by_cases hc:4000<u.u.code.length
 ·refine aI ?_;apply End.imp (fun w hm=>Mem.GF hm);exact End.ET (⟨[],none,0,[],none,0⟩,5,(k:Int)) (.inr ⟨show(5:Int)≠0 by decide,hbad (.inr hc)⟩) rfl
 repeat(refine Fm ?_;try first|intro ao cap|intro b)
 apply End.imp (fun w hm=>hm.nC (cs:=us.flatMap j8 ++j8 u) (ds:=j8 u) (es:=us.flatMap j8) tk (.cons tk (.cons tk .nil)) pB (by simp[dU]));rw[show us.flatMap j8 ++j8 u=(us ++[u]).flatMap j8 by simp,show us.length+1=(us ++[u]).length by simp];refine End.bK hK ⟨k+1,ao,cap,us ++[u]⟩ ⟨hlt,?_,by dsimp only;rw[Jl,gE];omega,fun v hv=>?_⟩ (by show x.l.length-(k+1)<x.l.length-k;omega)
 ·dsimp only;rw[Jq,hus,htk,qD,Jq,l0,if_pos (by rw[decide_eq_false k1];rfl)];rw[List.map_singleton,hu];rfl
 ·rcases dF.1 hv with hv|hv
  ·exact hsm v hv
  ·rw[dY.1 hv];omega
attribute [local irreducible] Fr.parse Fr.compile Fr.module
theorem aDW{t:aH}(h:∀p,Fr.parse t=some p→Fr.shaped p=false):Fr.module t=none:=by
 unfold Fr.module
 cases hp:Fr.parse t with
 |none=>rfl
 |some p=>
  rw[eR];unfold Fr.compile;rw[if_neg];unfold Fr.check;rw[h p hp];simp
abbrev aDU(t:aH)(r:ML×Bool):Prop:=(r.2=true∧Fr.module t=some r.1.aC)∨(r.2=false∧Fr.module t=none)
abbrev aDV(r:ML×Bool):Value:= .tuple #[r.1.val, .bool r.2]
set_option maxHeartbeats 1000000 in
theorem TX(t:aH)(hn:t.length≤9223372036854775807):Fn Tryz.prog 7 #[sv t] [cF] [] (σ:=ML×Bool) (aDU t) aDV (fun r=>[bC (qQ r.1)]):=by
 refine JE [sv t] Tryz.func7 Tryz.ntmps7 fun w S=>?_;refine Jn ?_
 repeat(refine Fm ?_;try intro b)
 refine bU (aFE t hn) fun x hx=>?_
 repeat(refine Fm ?_;try intro b)
 obtain⟨rb,rfl⟩:=a7 b;rcases hx with⟨h1,h2,h3⟩|⟨h1,h3⟩
 rotate_left
 ·have h1':decide (x.2.1=0)=false:=decide_eq_false h1;refine aI ?_;apply End.imp (fun w hm=>Mem.GF hm);exact End.gI (⟨[],none,0,[],none,0⟩,false) (he:=rfl) (hp:= .inr ⟨rfl,aDW h3⟩) (hx:=pM) (ht:=aV)
 have h1':decide (x.2.1=0)=true:=decide_eq_true h1;refine aI ?_;apply aE.op aV;refine aB.bA (spec:=aAk x.1.tL x.1 ⟨gF,fun d hd e he=>gZ _ (qF.2 ⟨d,hd,he⟩)⟩) (r:=fun w=>Reads.bX tk qV) (k:=?_);intro r hr;refine Jn ?_
 repeat(refine Fm ?_;try intro b)
 obtain⟨mb,rfl⟩:=a7 b;refine b8 5 [aF mb [.slice r.1.bo r.1.bx.length r.1.bc, .slice r.1.uo r.1.us.length r.1.uc] 26,aF rb [.int .i64 r.2.1, .int .i64 r.2.2] 70] 6 ?_;refine gP [0,1,2,3] ?_;refine gWl [4,5] ?_;refine b6 ?_;refine aI ?_;rcases hr with⟨c1, -,c2⟩|⟨c1,c2⟩
 ·exact End.gI (r.1,true) (he:=by rw[decide_eq_true c1]) (hp:= .inl ⟨rfl,by unfold Fr.module;rw[h2];exact c2⟩) (hx:=pM) (ht:=aV)
 ·exact End.gI (r.1,false) (he:=by rw[decide_eq_false c1]) (hp:= .inr ⟨rfl,by unfold Fr.module;rw[h2];exact c2⟩) (hx:=pM) (ht:=aV)
end
end Vw
namespace Fr
open ImgM
section
abbrev cM(v:Int):Prop:=0≤v∧v≤1000000000000000
abbrev PA(i:aT):Prop:=cM i.op∧cM i.a∧cM i.n
structure Jw(s c:Nat)(w:Wr):Prop where
 cc:c≤2000
 ll:w.locals.length+s≤20+2*c
 cl:w.code.length+s≤20+2*c
 lo:∀t∈w.locals,cM t
 co:∀i∈w.code,PA i
 bl:∀b∈w.blocks,∀x∈b,x.2≤w.locals.length
variable{s s' c:Nat}{w:Wr}
theorem Jw.put(h:Jw (s+1) c w){op a n:Int}(h1:cM op)(h2:cM a)(h3:cM n):Jw s c (w.put op a n):=
 ⟨h.cc,by have:=h.ll;show w.locals.length+s≤_;omega,by have:=h.cl;simp only[Wr.put,Jl,gE];omega,h.lo,fun i hi=>by
  simp only[Wr.put,dF,dY]at hi;rcases hi with hi|rfl
  ·exact h.co i hi
  ·exact⟨h1,h2,h3⟩,h.bl⟩
theorem Jw.less(h:Jw s c w)(hs:s'≤s):Jw s' c w:=⟨h.cc,by have:=h.ll;omega,by have:=h.cl;omega,h.lo,h.co,h.bl⟩
theorem Jw.node(h:Jw s c w){c1:Nat}{d:Nat}(h1:nd d c=some c1):Jw (s+2) c1 w:=by
 obtain⟨e,h2⟩:=AL h1;have:=h.ll;have:=h.cl;have:c1≤2000:=by
  unfold nd at h1
  split at h1
  ·cases h1
  ·cases h1;omega
 exact⟨this,aA,aA,h.lo,h.co,h.bl⟩
theorem Jw.loc(h:Jw (s+1) c w)(nm:aH){t:Int}(ht:cM t):Jw s c (w.gK nm t):=by
 refine⟨h.cc,by have:=h.ll;simp only[Wr.gK,Jl,gE];omega,by have:=h.cl;show w.code.length+s≤_;omega,fun i hi=>?_,h.co,fun b hb x hx=>?_⟩
 ·simp only[Wr.gK,dF,dY]at hi;rcases hi with hi|rfl
  ·exact h.lo i hi
  ·exact ht
 ·have hB:=h.bl;simp only[Wr.gK,Jl,gE]at hb⊢
  cases hw:w.blocks with
  |nil=>rw[hw]at hb;simp at hb
  |cons q r=>
   rw[hw]at hb hB;rcases cY.1 hb with rfl|hb
   ·rcases dF.1 hx with hx|hx
    ·have:=hB q gF x hx;omega
    ·rw[dY.1 hx];exact sE _
   ·have:=hB b (gZ _ hb) x hx;omega
theorem Jw.GM(h:Jw s c w):Jw s c w.open_:=⟨h.cc,h.ll,h.cl,h.lo,h.co,fun b hb x hx=>by
 rcases cY.1 hb with rfl|hb
 ·cases hx
 ·exact h.bl b hb x hx⟩
theorem Jw.cls(h:Jw s c w):Jw s c w.close:=⟨h.cc,h.ll,h.cl,h.lo,h.co,fun b hb x hx=>h.bl b (List.mem_of_mem_tail hb) x hx⟩
theorem Jw.len(h:Jw s c w):cM (w.code.length:Int):=by have:=h.cl;have:=h.cc;constructor<;>omega
theorem Jw.aCn(h:Jw s c w):cM (w.locals.length:Int):=by have:=h.ll;have:=h.cc;constructor<;>omega
theorem Jw.patch(h:Jw s c w)(k:Nat){a:Nat}(ha:cM (a:Int)):Jw s c (w.patch k a):=by
 refine⟨h.cc,h.ll,by simp only[Wr.patch,Ji];exact h.cl,h.lo,fun i hi=>?_,h.bl⟩;simp only[Wr.patch]at hi;rcases BR hi with hi|rfl
 ·exact h.co i hi
 ·have hd:PA (w.code.getD k default):=by
   rw[Jd]
   cases hx:w.code[k]? with
   |none=>exact⟨aK,aK,aK⟩
   |some y=>exact h.co y (kO hx)
  exact⟨hd.1,ha,hd.2.2⟩
theorem TI{n:Nat}:∀(B:List (List (aH×Nat))) (nm:aH),(∀b∈B,∀x∈b,x.2≤n)→(eN B nm).getD 0≤n
 |[],nm,h=>by rw[eN];exact bQ _
 |b::r,nm,h=>by
  rw[eN]
  cases hb:at_ b nm with
  |none=>exact TI r nm fun b hb=>h b (gZ _ hb)
  |some t=>
   unfold at_ at hb;obtain⟨x,hx,rfl⟩:=cQ.1 hb;exact h b gF x (EA hx)
theorem Jw.look(h:Jw s c w)(nm:aH):cM (w.look nm:Int):=by
 have:=TI w.blocks nm h.bl;have h2:w.look nm≤w.locals.length:=this;have:=h.ll;have:=h.cc;constructor<;>omega
theorem Jw.ty(h:Jw s c w)(k:Nat):cM (w.locals.getD k 0):=by
 rw[Jd]
 cases hx:w.locals[k]? with
 |none=>exact⟨aK,aK⟩
 |some y=>exact h.lo y (kO hx)
structure HP(P:List Df):Prop where
 len:P.length≤30
 ty:∀d∈P,0≤d.type.kind∧d.type.kind≤3
theorem S0{l:List Df}{p:Df→Bool}:(l.findIdx? p).getD 0≤l.length:=by
 cases h:l.findIdx? p with
 |none=>exact bQ _
 |some k=>
  obtain⟨h1, -⟩:=D7.1 h;exact Nat.le_of_lt h1
section
variable{P:List Df}(hP:HP P)
include hP
theorem HP.unit(nm:aH):dE P nm≤30:=by
 have h1:= @S0 (P.filter fun d=>!decide (d.kind=1)) (fun d=>decide (d.name=nm));have h2:=nS (fun d:Df=>!decide (d.kind=1)) P;have:=hP.len;unfold dE;omega
theorem HP.box(nm:aH):iC P nm≤30:=by
 have h1:= @S0 (P.filter fun d=>decide (d.kind=1)) (fun d=>decide (d.name=nm));have h2:=nS (fun d:Df=>decide (d.kind=1)) P;have:=hP.len;unfold iC;omega
theorem HP.no{t:Ty}(h:0≤t.kind∧t.kind≤3):cM (bO P t):=by
 have:=hP.unit t.gen;unfold bO
 split<;>constructor<;>omega
theorem HP.of(nm:aH):cM (q0 P nm):=by
 unfold q0
 split
 ·rename_i d hd
  exact hP.no (hP.ty d (EA hd))
 ·exact⟨aK,aK⟩
theorem HP.at(k:Nat):cM (match (P.filter fun d=>!decide (d.kind=1))[k]? with
   |some d=>bO P d.type
   |none=>0):=by
 split
 ·rename_i d hd
  exact hP.no (hP.ty d (mA.1 (kO hd)).1)
 ·exact⟨aK,aK⟩
variable{tk:Int}(hT:cM tk)
include hT
mutual
theorem ZN:∀(x:Ex) (s c:Nat) (w:Wr) (d c':Nat),iG d x c=some c'→Jw s c w→Jw s c' (bD P tk x w).1∧cM (bD P tk x w).2
 | .mk k n nm l,s,c,w,d,c',h,hJ=>by
  rw[iG]at h;obtain⟨c1,h1,h⟩:=bF.1 h
  split at h
  rotate_left
  ·cases h
  rename_i hh
  have hk:=ZO l _ _ _ _ _ h (hJ.node h1);rw[bD];generalize dS P tk l w=r at hk⊢;obtain⟨w1,ts⟩:=r;dsimp only at hk⊢;have hk1:Jw (s+1) c' w1:=hk.less aA;have z:cM 0:=⟨aK,aK⟩;have key:∀y:Wr×Int,(∃op a n t,cM op∧cM a∧cM n∧cM t∧y=(w1.put op a n,t))→Jw s c' y.1∧cM y.2:=fun y hy=>by
   obtain⟨op,a,n,t,e1,e2,e3,e4,rfl⟩:=hy;exact⟨hk1.put e1 e2 e3,e4⟩
  have hu:=hP.unit nm;have hb:=hP.box nm;have hu':cM (dE P nm:Int):=by constructor<;>omega
  have hb':cM (iC P nm:Int):=by constructor<;>omega
  refine key _ ?_
  by_cases k1:k=1
  ·rw[if_pos k1];have hn:0≤n∧n≤999999999999999:=by
    subst k1;unfold lO at hh;simp at hh;omega
   exact⟨_,_,_,_,⟨aK,aK⟩,z,⟨aA,aA⟩,⟨aK,aK⟩,rfl⟩
  rw[if_neg k1]
  by_cases k2:k=2
  ·rw[if_pos k2];have hn:n=0∨n=1:=by
    subst k2;unfold lO at hh;simp at hh;omega
   exact⟨_,_,_,_,⟨aK,aK⟩,⟨aA,aA⟩,z,⟨aK,aK⟩,rfl⟩
  rw[if_neg k2];refine lF (p:=fun y=>∃op a n t,cM op∧cM a∧cM n∧cM t∧y=(w1.put op a n,t)) (fun _=>⟨_,_,_,_,⟨aK,aK⟩,hk.look _,z,hk.ty _,rfl⟩) (fun _=>?_);refine lF (p:=fun y=>∃op a n t,cM op∧cM a∧cM n∧cM t∧y=(w1.put op a n,t)) (fun _=>⟨_,_,_,_,⟨aK,aK⟩,z,z,⟨aK,aK⟩,rfl⟩) (fun _=>?_);refine lF (p:=fun y=>∃op a n t,cM op∧cM a∧cM n∧cM t∧y=(w1.put op a n,t)) (fun _=>⟨_,_,_,_,⟨aK,aK⟩,z,z,⟨aK,aK⟩,rfl⟩) (fun _=>?_);refine lF (p:=fun y=>∃op a n t,cM op∧cM a∧cM n∧cM t∧y=(w1.put op a n,t)) (fun _=>⟨_,_,_,_,⟨aA,aA⟩,z,z,by split<;>exact⟨aK,aK⟩,rfl⟩) (fun _=>?_);refine lF (p:=fun y=>∃op a n t,cM op∧cM a∧cM n∧cM t∧y=(w1.put op a n,t)) (fun _=>⟨_,_,_,_,⟨aK,aK⟩,hu',z,hP.of _,rfl⟩) (fun _=>?_);refine lF (p:=fun y=>∃op a n t,cM op∧cM a∧cM n∧cM t∧y=(w1.put op a n,t)) (fun _=>⟨_,_,_,_,⟨aK,aK⟩,hb',z,hP.of _,rfl⟩) (fun _=>?_);refine lF (p:=fun y=>∃op a n t,cM op∧cM a∧cM n∧cM t∧y=(w1.put op a n,t)) (fun _=>⟨_,_,_,_,⟨aK,aK⟩,hu',z,⟨aA,aA⟩,rfl⟩) (fun _=>?_);refine lF (p:=fun y=>∃op a n t,cM op∧cM a∧cM n∧cM t∧y=(w1.put op a n,t)) (fun _=>⟨_,_,_,_,⟨aK,aK⟩,z,z,hT,rfl⟩) (fun _=>?_);refine lF (p:=fun y=>∃op a n t,cM op∧cM a∧cM n∧cM t∧y=(w1.put op a n,t)) (fun _=>⟨_,_,_,_,⟨aK,aK⟩,z,z,⟨aK,aK⟩,rfl⟩) (fun _=>?_);exact⟨_,_,_,_,⟨aK,aK⟩,z,z,hP.at _,rfl⟩
theorem ZO:∀(l:List Ex) (s c:Nat) (w:Wr) (d c':Nat),iX d l c=some c'→Jw s c w→Jw s c' (dS P tk l w).1
 |[],s,c,w,d,c',h,hJ=>by rw[iX]at h;cases h;rw[dS];exact hJ
 |x::l,s,c,w,d,c',h,hJ=>by
  rw[iX]at h;obtain⟨c1,h1,h⟩:=bF.1 h;have a:=ZN x _ _ _ _ _ h1 hJ;rw[dS];exact ZO l _ _ _ _ _ h a.1
end
mutual
theorem aIW:∀(x:St) (s c:Nat) (w:Wr) (d c':Nat),jT d x c=some c'→Jw s c w→Jw s c' (kL P tk x w)
 | .mk k nm x b e,s,c,w,d,c',h,hJ=>by
  have z:cM 0:=⟨aK,aK⟩;rw[jT]at h;obtain⟨c1,h1,h⟩:=bF.1 h
  split at h
  rotate_left
  ·cases h
  have hJ1:=hJ.node h1;rw[kL]
  by_cases h6:k=6
  ·rw[if_pos h6]at h
   cases h
   rw[if_neg (show¬k=3 by omega),if_neg (show¬k=4 by omega),if_pos h6];exact(hJ1.less aA).put ⟨aK,aK⟩ z z
  rw[if_neg h6]at h;obtain⟨c2,h2,h⟩:=bF.1 h;obtain⟨c3,h3,h⟩:=bF.1 h;obtain⟨hx,ht⟩:=ZN hP hT x _ _ _ _ _ h2 hJ1
  by_cases k3:k=3
  ·rw[if_pos (.inl k3)]at h3;rw[if_pos k3]at h⊢
   split at h3
   ·cases h3
   split at h
   ·cases h
   have e1:=hx.put (op:=22) (a:=0) (n:=0) ⟨aK,aK⟩ z z;have e2:=(D0 b _ _ _ _ _ h3 e1.GM).cls;have e3:=e2.put (op:=21) (a:=0) (n:=0) ⟨aK,aK⟩ z z;have e4:=e3.patch (((bD P tk x w).1.put 22 0 0).code.length-1) e3.len;have e5:=(D0 e _ _ _ _ _ h e4.GM).cls;exact e5.patch _ e5.len
  by_cases k4:k=4
  ·rw[if_pos (.inr k4)]at h3;rw[if_neg k3]at h⊢;rw[if_pos k4]
   cases h
   split at h3
   ·cases h3
   have e1:=hx.put (op:=22) (a:=0) (n:=0) ⟨aK,aK⟩ z z;have e2:=(D0 b _ _ _ _ _ h3 e1.GM).cls;have e3:=e2.put (op:=21) (a:=(w.code.length:Int)) (n:=0) ⟨aK,aK⟩ hJ.len z;exact e3.patch _ e3.len
  rw[if_neg (show¬(k=3∨k=4) by omega)]at h3
  cases h3
  rw[if_neg k3]at h⊢
  cases h
  rw[if_neg k4,if_neg h6];generalize bD P tk x w=r at hx ht⊢;obtain⟨w1,t⟩:=r;dsimp only at hx ht⊢;have hx1:Jw (s+1) _ w1:=hx.less aA;have hb:=hP.box nm;refine lF (p:=Jw s _) (fun _=>(hx.loc nm ht).put ⟨aK,aK⟩ hx.aCn z) (fun _=>?_);refine lF (p:=Jw s _) (fun _=>hx1.put ⟨aK,aK⟩ (hx.look _) z) (fun _=>?_);refine lF (p:=Jw s _) (fun _=>hx1.put ⟨aK,aK⟩ z z) (fun _=>?_);refine lF (p:=Jw s _) (fun _=>hx1.put ⟨aK,aK⟩ ⟨aA,aA⟩ z) (fun _=>?_);refine lF (p:=Jw s _) (fun _=>hx1.put ⟨aK,aK⟩ z z) (fun _=>?_);refine lF (p:=Jw s _) (fun _=>hx1.put ⟨aK,aK⟩ z z) (fun _=>?_);exact hx.less aA
theorem D0:∀(l:List St) (s c:Nat) (w:Wr) (d c':Nat),eH d l c=some c'→Jw s c w→Jw s c' (bZ P tk l w)
 |[],s,c,w,d,c',h,hJ=>by rw[eH]at h;cases h;rw[bZ];exact hJ
 |x::l,s,c,w,d,c',h,hJ=>by
  rw[eH]at h;obtain⟨c1,h1,h⟩:=bF.1 h;rw[bZ];exact D0 l _ _ _ _ _ h (aIW x _ _ _ _ _ h1 hJ)
end
end
end
def Kd(t:Ty):Prop:=1≤t.kind∧t.kind≤3
theorem Kd.nn{t:Ty}(h:Kd t):0≤t.kind∧t.kind≤3:=⟨by have:=h.1;omega,h.2⟩
theorem MC{t:Ty}(h:kF t=true):Kd t:=by
 unfold kF at h;simp only[JX,JV]at h;exact h.1
structure D3(d:Df):Prop where
 kind:1≤d.kind∧d.kind≤4
 ps:d.kind=2∨d.kind=3→d.params.length≤6∧∀p∈d.params,Kd p.type
 aP:d.kind=3→Kd d.aP
 type:d.kind≠4→Kd d.type
 cap:d.kind=1→1≤d.cap∧d.cap≤20
 body:d.kind≠1→∃c c',c≤2000∧eH 2 d.body c=some c'
theorem aDz{d:Df}{c c':Nat}(h:oS d c=some c'):D3 d:=by
 unfold oS at h;obtain⟨c1,h1,h⟩:=bF.1 h;have hc1:c1≤2000:=by
  unfold nd at h1
  split at h1
  ·cases h1
  ·cases h1;omega
 split at h
 rotate_left
 ·cases h
 rename_i hc
 simp only[JX,JV]at hc;obtain⟨⟨⟨⟨⟨a1,a2⟩,a3⟩,a4⟩,a5⟩,a6⟩:=hc;refine⟨⟨a1,a2⟩,fun hk=>?_,fun hk=>?_,fun hk=>?_,fun hk=>?_,fun hk=>?_⟩
 ·have e:(decide (d.kind=2)||decide (d.kind=3))=true:=by rcases hk with hk|hk<;>simp[hk]
  rw[e]at a4;simp only[xF,Bool.not_not,JX,JV,pD]at a4;exact⟨a4.1,fun p hp=>MC (a4.2 p hp).2⟩
 ·rw[decide_eq_true hk]at a5;simp only[xF,Bool.not_not]at a5;exact MC a5
 ·rw[decide_eq_false hk]at a6;simp only[Bool.not_false,xF,Bool.not_not]at a6;exact MC a6
 ·rw[if_pos hk]at h
  split at h
  ·cases h
  ·constructor<;>omega
 ·rw[if_neg hk]at h
  split at h
  ·cases h
  ·exact⟨_,_,hc1,h⟩
theorem MA:∀(l:List Df) (c c':Nat),lS l c=some c'→∀d∈l,D3 d
 |[],c,c',h,d,hd=>by cases hd
 |x::l,c,c',h,d,hd=>by
  rw[lS]at h;obtain⟨c1,h1,h⟩:=bF.1 h;rcases cY.1 hd with rfl|hd
  ·exact aDz h1
  ·exact MA l _ _ h d hd
theorem aBF{l r:List Tok}{d:Df}(h:vH l=some (d,r))(hk:d.kind=4):d.type=default:=by
 unfold vH at h
 repeat' split at h
 ·simp only[bF]at h;obtain⟨⟨s,r1⟩, -,⟨t,r2⟩, -,⟨n,r3⟩, -,h⟩:=h;dsimp only at h
  split at h
  ·cases h
  ·obtain⟨r4, -,h⟩:=cQ.1 h
   cases h
   exact absurd hk (show¬(1:Int)=4 by decide)
 ·simp only[bF,cQ]at h;obtain⟨⟨s,r1⟩, -,⟨t,r2⟩, -,⟨n,r3⟩, -,⟨b,r4⟩, -,h⟩:=h
  cases h
  exact absurd hk (show¬(2:Int)=4 by decide)
 ·simp only[bF,cQ]at h;obtain⟨⟨s,r1⟩, -,⟨t,r2⟩, -,r3, -,⟨n,r4⟩, -,r5, -,⟨b,r6⟩, -,⟨q,r7⟩, -,h⟩:=h
  cases h
  exact absurd hk (show¬(3:Int)=4 by decide)
 ·simp only[bF,cQ]at h;obtain⟨⟨s,r1⟩, -,⟨t,r2⟩, -,h⟩:=h
  cases h
  rfl
 ·cases h
theorem RA:∀(n:Nat) (l r:List Tok) (ds:List Df),defs n l=some (ds,r)→∀d∈ds,d.kind=4→d.type=default
 |n,[],r,ds,h,d,hd,hk=>by
  have:defs n []=some ([],[]):=by cases n<;>rfl
  rw[this]at h;cases h;cases hd
 |0,_::_,r,ds,h,d,hd,hk=>by cases h
 |n+1,t::l,r,ds,h,d,hd,hk=>by
  have e:defs (n+1) (t::l)=(vH (t::l)).bind fun x=>(defs n x.2).map fun y=>(x.1::y.1,y.2):=rfl;rw[e]at h;simp only[bF,cQ]at h;obtain⟨⟨x,r1⟩,h1,⟨y,r2⟩,h2,h⟩:=h
  cases h
  rcases cY.1 hd with rfl|hd
  ·exact aBF h1 hk
  ·exact RA n _ _ _ h2 d hd hk
theorem aEZ{s:aH}{P:List Df}(h:parse s=some P):∀d∈P,d.kind=4→d.type=default:=by
 unfold parse at h;simp only[bF,cQ]at h;obtain⟨l, -,⟨ds,r⟩,h1,rfl⟩:=h;exact RA _ _ _ _ h1
theorem VK{P:List Df}(hP:HP P):∀(ps:List Pm) (s c:Nat) (w:Wr),(∀p∈ps,0≤p.type.kind∧p.type.kind≤3)→Jw (s+ps.length) c w→Jw s c (ps.foldl (fun w p=>w.gK p.name (bO P p.type)) w)
 |[],s,c,w,h,hJ=>hJ
 |p::ps,s,c,w,h,hJ=>VK hP ps s c _ (fun q hq=>h q (gZ _ hq)) (Jw.loc (s:=s+ps.length) hJ p.name (hP.no (h p gF)))
theorem vY{v:Int}(h:cM v):In64 v:=by unfold In64;have:=h.1;have:=h.2;omega
structure PG(u:bM):Prop where
 kind:In64 u.kind
 params:In64 u.params
 locals:∀t∈u.locals,In64 t
 result:In64 u.result
 aP:In64 u.aP
 code:∀i∈u.code,In64 i.op∧In64 i.a∧In64 i.n
abbrev wB(P:List Df)(d:Df):Wr:=(bZ P (if d.kind=3 then bO P d.aP else 0) d.body ((if d.kind=4 then []else d.params).foldl (fun(w:Wr) p=>w.gK p.name (bO P p.type)) (⟨[],[],[[]]⟩:Wr)).open_).close
theorem aHp{P:List Df}(hP:HP P){d:Df}(hd:D3 d)(h1:d.kind≠1):PG (fH P d):=by
 have z:cM 0:=⟨aK,aK⟩;obtain⟨c,c',hc,hb⟩:=hd.body h1;have hk:=hd.kind;have htk:cM (if d.kind=3 then bO P d.aP else 0):=by
  split
  ·rename_i h;exact hP.no (hd.aP h).nn
  ·exact z
 have hres:cM (if d.kind=4 then 0 else bO P d.type):=by
  split
  ·exact z
  ·rename_i h;exact hP.no (hd.type h).nn
 have h0:Jw 12 c ⟨[],[],[[]]⟩:=⟨hc,by show 0+12≤_;omega,by show 0+12≤_;omega,fun t ht=>(by cases ht),fun t ht=>(by cases ht),fun b hb x hx=>by
  rw[dY.1 hb]at hx;cases hx⟩
 have hps:(if d.kind=4 then []else d.params).length≤6∧∀p∈(if d.kind=4 then []else d.params),0≤p.type.kind∧p.type.kind≤3:=by
  split
  ·exact⟨bQ _,fun p hp=>by cases hp⟩
  ·exact⟨(hd.ps aA).1,fun p hp=>((hd.ps aA).2 p hp).nn⟩
 have hJ:Jw 6 c' (wB P d):=(D0 hP htk d.body _ _ _ _ _ hb (VK hP _ 6 c _ hps.2 (h0.less aA)).GM).cls;have hw:Jw 2 c' (if d.kind=2 then(((wB P d).put (if(if d.kind=4 then 0 else bO P d.type)=2 then 2 else 1) 0 0).put 24 0 0)else(wB P d).put 25 0 0):=by
  refine lF (p:=Jw 2 c') (fun _=>?_) (fun _=>?_)
  ·exact((hJ.less (s':=4) aA).put (lF (p:=cM) (fun _=>⟨aK,aK⟩) (fun _=>⟨aK,aK⟩)) z z).put ⟨aK,aK⟩ z z
  ·exact(hJ.less (s':=3) aA).put ⟨aK,aK⟩ z z
 refine⟨by unfold In64;show _≤d.kind∧d.kind≤_;omega,?_,fun t ht=>vY (hw.lo t ht),vY hres,vY htk,fun i hi=>?_⟩
 ·show In64 (if d.kind=4 then 0 else(d.params.length:Int))
  split
  ·exact vY z
  ·have:=(hd.ps aA).1;unfold In64;omega
 ·have:=hw.co i hi;exact⟨vY this.1,vY this.2.1,vY this.2.2⟩
theorem TY{t:aH}{M:aL}(h:module t=some M):(∀b∈M.boxes,In64 b.1∧In64 b.2)∧∀u∈M.aJ,PG u:=by
 unfold module at h;obtain⟨P,hp,h⟩:=bF.1 h;unfold compile at h
 split at h
 rotate_left
 ·cases h
 rename_i hc
 have hsh:shaped P=true:=by
  unfold check at hc;simp only[JX]at hc;exact hc.1.1.1.1.1
 unfold shaped at hsh;simp only[JX,JV]at hsh;obtain⟨c',hc'⟩:=lK.1 hsh.2;have hd:=MA P _ _ hc';have hP:HP P:=⟨hsh.1,fun d hd'=>by
  by_cases h4:d.kind=4
  ·rw[aEZ hp d hd' h4];exact⟨aK,aK⟩
  ·exact((hd d hd').type h4).nn⟩
 dsimp only at h
 split at h
 ·cases h
 cases h
 refine⟨fun b hb=>?_,fun u hu=>?_⟩
 ·obtain⟨d,hm,rfl⟩:=eY.1 hb;have hm:=mA.1 hm;have k1:d.kind=1:=of_decide_eq_true hm.2;exact⟨vY (hP.no ((hd d hm.1).type aA).nn),by have:=(hd d hm.1).cap k1;unfold In64;omega⟩
 ·obtain⟨d,hm,rfl⟩:=eY.1 hu;have hm:=mA.1 hm;have k1:d.kind≠1:=fun e=>by have:=hm.2;simp[e]at this
  exact aHp hP (hd d hm.1) k1
end Fr
end Go.Proofs.YtofckcabpchcmaaGreatDoor
