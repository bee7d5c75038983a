/- All tasks looked at, walked: who can go on. -/
import Derived.Test.YtjehflelkpacfaaGreatM28
set_option linter.unusedVariables false
set_option linter.unusedSimpArgs false
set_option linter.unusedSectionVars false
set_option maxRecDepth 100000
namespace Go.Proofs.YtjehflelkpacfaaGreat.Vw
open Go.RowKit Go.Proofs.YtjehflelkpacfaaGreat.Img
section
attribute [local irreducible] Run Cod End OpT Still RunQ RunS RunT Fn PutOk
structure MaP where
 xb:Nat
 mb:Nat
 to:Option Addr
 tc:Nat
 tbs:List Nat
 p:BxP
abbrev E0(m:ML)(p:BxP):EnvM:=bxEnv m.mdl p none trivial
abbrev maM(m:ML)(x:MaP)(ts:List TkL)(e:BxE)(n:Nat):List Chunk:=[blk x.xb (maC x.to x.tbs.length x.tc x.p.bo x.p.bs.length x.p.bc n) 54,blk x.mb (mdV m) 25,arr x.to x.tbs.length x.tc 55 ptrC x.tbs,bxM x.p e,tksM x.mb (bxV x.p.bo x.p.bs.length x.p.bc) (fun _=> .nilFunc) ts]
abbrev maA(ts:List TkL)(e:BxE)(n:Nat):Vm.Ma:=⟨ts.map TkL.tk,e.abs,n⟩
structure MaIs(m:ML)(T:Nat→Int→Option Ver.Shape)(x:MaP)(ts:List TkL)(e:BxE)(n:Nat):Prop where
 tbs:ts.map (·.tb)=x.tbs
 wf:∀t∈ts,t.Wf
 bx:BxOk m.mdl x.p e
 ok:(maA ts e n).Ok m.mdl T
structure LkI(m:ML)(ts0:List TkL)(e:BxE)(k:Nat)(ts:List TkL):Prop where
 len:ts.length=ts0.length
 at_:∀j,j<ts0.length→(ts.getD j default).tb=(ts0.getD j default).tb∧(ts.getD j default).Wf∧(ts.getD j default).tk=if j<k then(Vm.look (Vm.bxs m.mdl none) m.mdl ((ts0.getD j default).tk,e.abs)).1 else(ts0.getD j default).tk
section
variable{m:ML}{T:Nat→Int→Option Ver.Shape}{x:MaP}{ts ts0:List TkL}{e:BxE}{n k:Nat}
theorem tkl_mem{l:List TkL}{k:Nat}(hk:k<l.length):l.getD k default∈l:=by
 rw[Jd,Je hk];exact List.getElem_mem hk
theorem LkI.zero(h:MaIs m T x ts0 e n):LkI m ts0 e 0 ts0:=⟨rfl,fun j hj=>⟨rfl,h.wf _ (tkl_mem hj),by rw[if_neg (by omega)]⟩⟩
theorem LkI.next(h:MaIs m T x ts0 e n)(hl:LkI m ts0 e k ts)(hk:k<ts0.length):LkI m ts0 e (k+1) (ts.set k ((((ts.getD k default).sl (E0 m x.p) e).look m).lay (ts.getD k default).tb)):=by
 have hz:((ts.getD k default).sl (E0 m x.p) e).Wf:=(hl.at_ k hk).2.1.sl h.bx;refine⟨by simpa using hl.len,fun j hj=>?_⟩;have hg:∀t,(ts.set k t).getD j default=if k=j then t else ts.getD j default:=fun t=>by
  simp only[Jd,List.getElem?_set]
  by_cases hkj:k=j
  ·subst hkj;rw[if_pos rfl,if_pos rfl,if_pos (by rw[hl.len];exact hk)];rfl
  ·rw[if_neg hkj,if_neg hkj]
 rw[hg]
 by_cases hkj:k=j
 ·subst hkj;rw[if_pos rfl];have ha:=hl.at_ k hk;have ht:=ha.2.2;rw[if_neg (by omega)]at ht;refine⟨ha.1,(hz.look m).lay _,?_⟩;rw[if_pos (by omega),←ht];exact congrArg (·.1) (hz.look_two m)
 ·rw[if_neg hkj];obtain⟨a1,a2,a3⟩:=hl.at_ j hj;refine⟨a1,a2,?_⟩;rw[a3]
  by_cases hjk:j<k
  ·rw[if_pos hjk,if_pos (by omega)]
  ·rw[if_neg hjk,if_neg (by omega)]
theorem LkI.tbs(h:MaIs m T x ts0 e n)(hl:LkI m ts0 e k ts):ts.map (·.tb)=x.tbs:=by
 rw[←h.tbs];refine List.ext_getElem (by simpa using hl.len) fun j h1 h2=>?_
 simp only[Jf]at h1 h2;have:=(hl.at_ j h2).1;simp only[Jd,Je h1,Je h2,JZ]at this;simpa using this
theorem LkI.done(h:MaIs m T x ts0 e n)(hl:LkI m ts0 e ts0.length ts):MaIs m T x ts e n∧maA ts e n=(maA ts0 e n).looked m.mdl:=by
 have e1:ts.map TkL.tk=(ts0.map TkL.tk).map fun t=>(Vm.look (Vm.bxs m.mdl none) m.mdl (t,e.abs)).1:=by
  refine List.ext_getElem (by simpa using hl.len) fun j h1 h2=>?_
  simp only[Jf]at h1 h2;have:=(hl.at_ j h2).2.2;rw[if_pos h2]at this;simp only[Jd,Je h1,Je h2,JZ]at this;simpa using this
 have e2:maA ts e n=(maA ts0 e n).looked m.mdl:=by unfold Vm.Ma.looked;rw[←e1]
 refine⟨⟨hl.tbs h,fun t ht=>?_,h.bx,by rw[e2];exact h.ok.looked⟩,e2⟩;obtain⟨j,hj,rfl⟩:=List.getElem_of_mem ht;have:=(hl.at_ j (by rw[←hl.len];exact hj)).2.1;rwa [Jd,Je hj]at this
theorem MaIs.good(h:MaIs m T x ts0 e n)(hl:LkI m ts0 e k ts)(hk:k<ts0.length):Vm.Good m.mdl T (Vm.KB m.mdl) ((ts.getD k default).sl (E0 m x.p) e).two:=by
 have ht:=(hl.at_ k hk).2.2;rw[if_neg (by omega)]at ht;show Vm.Good m.mdl T (Vm.KB m.mdl) ((ts.getD k default).tk,e.abs);rw[ht];exact h.ok.good _ (List.mem_map.2 ⟨_,tkl_mem hk,rfl⟩)
end
def rdyTo(c:Vm.Ma)(k:Nat):List Nat:=(List.range k).filter (fun j=>decide ((c.ts.getD j default).st=1))
theorem rdy_len(c:Vm.Ma)(k:Nat):(rdyTo c k).length≤k:=by
 unfold rdyTo;have:=List.length_filter_le (fun j=>decide ((c.ts.getD j default).st=1)) (List.range k);simpa using this
theorem ready_succ(c:Vm.Ma)(k:Nat):rdyTo c (k+1)=rdyTo c k ++if(c.ts.getD k default).st=1 then [k]else []:=by
 unfold rdyTo;rw[List.range_succ,List.filter_append];congr 1;simp only[List.filter_cons,List.filter_nil]
 by_cases h:(c.ts.getD k default).st=1<;>simp only[h,decide_true,decide_false,if_true,if_false,Bool.false_eq_true]
set_option maxHeartbeats 2000000 in
theorem ready_is(m:ML){T:Nat→Int→Option Ver.Shape}(hC:Vm.Certs m.mdl T)(x:MaP)(ts:List TkL)(e:BxE)(n:Nat)(h:MaIs m T x ts e n)(hn:ts.length≤30):
  Fn Tryz.prog 24 #[ptr x.xb] [md m,bxR x.p] (maM m x ts e n) (σ:=List TkL×Option Addr×Nat) (fun s=>MaIs m T x s.1 e n∧maA s.1 e n=(maA ts e n).looked m.mdl)
   (fun s=> .slice s.2.1 ((maA ts e n).looked m.mdl).ready.length s.2.2) (fun s=>arr s.2.1 ((maA ts e n).looked m.mdl).ready.length s.2.2 3 natC ((maA ts e n).looked m.mdl).ready::maM m x s.1 e n):=by
 obtain⟨C,hC'⟩:∃C,C=(maA ts e n).looked m.mdl:=⟨_,rfl⟩;rw[←hC'];have htb:x.tbs.length=ts.length:=by rw[←h.tbs,Jf]
 have hCl:C.ts.length=ts.length:=by rw[hC'];simp[Vm.Ma.looked]
 have hFr:C.ready=rdyTo C ts.length:=by unfold Vm.Ma.ready rdyTo;rw[hCl]
 rw[hFr];clear hFr;refine JE [ptr x.xb] Tryz.func24 Tryz.ntmps24 fun w S=>?_
 (refine Jn ?_)
 repeat(refine Jy ?_;try first|intro ao cap|intro b)
 apply Cod.imp (fun w hm=>hm.nilArr 3 natC);refine Cod.only ((fun z=>old w S::md m::bxR x.p::arr z.2.2.1 (rdyTo C z.1).length z.2.2.2 3 natC (rdyTo C z.1)::maM m x z.2.1 e n) (0,ts,none,0)) (tks) ?_;apply Cod.loop (σ:=Nat×List TkL×Option Addr×Nat) (fun z=>z.1≤ts.length∧LkI m ts e z.1 z.2.1) (fun z=>[(3, .slice z.2.2.1 (rdyTo C z.1).length z.2.2.2),(9, .slice x.to x.tbs.length x.tc),(10, .int .i64 (x.tbs.length:Int)),(11, .int .i64 (z.1:Int))]) (fun z=>old w S::md m::bxR x.p::arr z.2.2.1 (rdyTo C z.1).length z.2.2.2 3 natC (rdyTo C z.1)::maM m x z.2.1 e n) (fun z=>ts.length-z.1) (0,ts,none,0)
 rotate_left
 exact sb;exact tks;intro z hz K1 hK1;(refine Jn ?_)
 rotate_left
 ·exact⟨Nat.zero_le _,LkI.zero h⟩
 obtain⟨q,us,ao,ac⟩:=z;obtain⟨hq0,hl⟩:=hz;dsimp only at hq0 hl hK1⊢;have hrl:=rdy_len C q
 by_cases hq:q<ts.length
 ·have hsn:=ready_succ C q;obtain⟨t,ht⟩:∃t,t=us.getD q default:=⟨_,rfl⟩;have hz:=(hl.at_ q hq).2.1.sl (E:=E0 m x.p) h.bx;have hg:=h.good hl hq;have hnx:=hl.next h hq;have hlu:q<us.length:=by rw[hl.len];exact hq
  rw[←ht]at hz hg hnx;have htbq:x.tbs.getD q default=t.tb:=by
   rw[←hl.tbs h,ht,Jd,Jd,JU,Je hlu];rfl
  have hCq:(C.ts.getD q default).st=(((t.sl (E0 m x.p) e).look m).st):=by
   have h1:=(hnx.at_ q hq).2.2;rw[if_pos (by omega)]at h1;have e2:(us.set q ((((t.sl (E0 m x.p) e).look m)).lay t.tb)).getD q default=((t.sl (E0 m x.p) e).look m).lay t.tb:=by
    rw[Jd,JS hlu];rfl
   rw[e2]at h1;have h3:C.ts.getD q default=(Vm.look (Vm.bxs m.mdl none) m.mdl ((ts.getD q default).tk,e.abs)).1:=by
    rw[hC'];unfold Vm.Ma.looked;rw[Jd,JU];simp only[maA,JU,Je hq,Option.map_some,JZ,Jd]
   rw[h3,←h1];rfl
  apply Cod.imp (fun w hm=>by have:=Mem.tkOut (k:=q) hm (tk) hlu;rw[←ht]at this;exact this);(refine Jn ?_)
  repeat(refine Jy ?_;try first|intro ao cap|intro b)
  rw[htbq]
  repeat(refine Jy ?_;try first|intro ao cap|intro b)
  (refine Jc ?_;refine OpT.call0_ (spec:=look_task (E:=E0 m x.p) ⟨t.tb,x.mb,m⟩ (t.sl (E0 m x.p) e) hC hz rfl hg) (r:=(fun w=>Reads.md (tk) (Reads.any (tk) (bxR_excl x.p) .nil))) (k:=?_);intro s hs;(refine Jn ?_))
  by_cases h1:((t.sl (E0 m x.p) e).look m).st=1
  ·rw[if_pos (hCq.trans h1)]at hsn
   repeat(refine Jy ?_;try first|intro ao cap|intro b)
   apply End.imp (fun w hm=>Mem.tkIn (told:=fun _=> .nilFunc) (t:=((t.sl (E0 m x.p) e).look m).lay t.tb) hm (tk) (tks) hlu);have hsl:(rdyTo C (q+1)).length=(rdyTo C q).length+1:=by rw[hsn];simp
   rw[←hsn,←hsl];refine End.round0_ hK1 (q+1,us.set q (((t.sl (E0 m x.p) e).look m).lay t.tb),ao,cap) ?_ ?_
   ·exact⟨by dsimp only;omega,hnx⟩
   ·dsimp only;omega
  ·rw[if_neg (fun h=>h1 (hCq.symm.trans h)),List.append_nil]at hsn
   repeat(refine Jy ?_;try first|intro ao cap|intro b)
   apply End.imp (fun w hm=>Mem.tkIn (told:=fun _=> .nilFunc) (t:=((t.sl (E0 m x.p) e).look m).lay t.tb) hm (tk) (tks) hlu);rw[←hsn];refine End.round0_ hK1 (q+1,us.set q (((t.sl (E0 m x.p) e).look m).lay t.tb),ao,ac) ?_ ?_
   ·exact⟨by dsimp only;omega,hnx⟩
   ·dsimp only;omega
 ·obtain rfl:q=ts.length:=by omega
  obtain⟨d1,d2⟩:=hl.done h
  repeat(refine Jy ?_;try first|intro ao cap|intro b)
  refine End.done1_ ((us,ao,ac):List TkL×Option Addr×Nat) (he:=by rfl) (hp:=⟨d1,d2.trans hC'.symm⟩) (hx:=by simp[blk_excl,arr_excl,bxM_excl,tksM_excl])
end
section
attribute [local irreducible] Run Cod End OpT Still RunQ RunS RunT Fn PutOk
structure EnL where
 st:Int
 bx:Int
 tr:Int
 oo:Option Addr
 oc:Nat
 out:List Int
instance:Inhabited EnL:=⟨⟨0,0,0,none,0,[]⟩⟩
def enC(x:EnL):List Value:=[.int .i64 x.st, .int .i64 x.bx, .int .i64 x.tr, .slice x.oo x.out.length x.oc]
instance:Enc enC:=⟨fun _=>rfl,by decide,fun a u hu=>by simp[enC]at hu;rcases hu with rfl|rfl|rfl|rfl<;>rfl⟩
def enOf(x:EnL):Int×Int×Int×List Int:=(x.st,x.bx,x.tr,x.out)
def tkOf(t:Vm.Tk):Int×Int×Int×List Int:=(t.st,t.bx,t.tr,t.out)
abbrev enM(x:EnL):Chunk:=arr x.oo x.out.length x.oc 2 i64c x.out
structure WoL where
 eo:Option Addr
 ec:Nat
 ends:List EnL
 wo:Option Addr
 wc:Nat
 rows:List Rw
 n:Nat
abbrev WoL.cells(r:WoL):List Value:=[.slice r.eo r.ends.length r.ec, .slice r.wo r.rows.length r.wc, .int .i64 (r.n:Int)]
abbrev WoL.mem(r:WoL):List Chunk:=[arr r.eo r.ends.length r.ec 102 enC r.ends,bag (r.ends.map enM),arr r.wo r.rows.length r.wc 63 rwC r.rows,bag (r.rows.map (rowM 2))]
structure WoL.Is(r:WoL)(c:Vm.Ma):Prop where
 ends:r.ends.map enOf=c.ts.map tkOf
 rows:r.rows.map (·.l)=c.bs.ws
 n:r.n=c.n
theorem LkI.one{m:ML}{T:Nat→Int→Option Ver.Shape}{x:MaP}{ts ts0:List TkL}{e:BxE}{n k:Nat}(h:MaIs m T x ts0 e n)(hl:LkI m ts0 e k ts)(hk:k<ts0.length):
  ((maA ts0 e n).looked m.mdl).ts.getD k default=((((ts.getD k default).sl (E0 m x.p) e).look m).lay (ts.getD k default).tb).tk:=by
 have h1:=((hl.next h hk).at_ k hk).2.2;rw[if_pos (by omega)]at h1;have hlu:k<ts.length:=by rw[hl.len];exact hk
 have e2:(ts.set k ((((ts.getD k default).sl (E0 m x.p) e).look m).lay (ts.getD k default).tb)).getD k default=(((ts.getD k default).sl (E0 m x.p) e).look m).lay (ts.getD k default).tb:=by
  rw[Jd,JS hlu];rfl
 rw[e2]at h1;rw[h1];unfold Vm.Ma.looked;rw[Jd,JU];simp only[maA,JU,Je hk,Option.map_some,JZ,Jd]
set_option maxHeartbeats 2000000 in
theorem world_is(m:ML){T:Nat→Int→Option Ver.Shape}(hC:Vm.Certs m.mdl T)(x:MaP)(ts:List TkL)(e:BxE)(n:Nat)(h:MaIs m T x ts e n)(hn:ts.length≤30)(hb30:m.bx.length≤30):
  Fn Tryz.prog 20 #[ptr x.xb] [md m,bxR x.p] (maM m x ts e n) (σ:=List TkL×WoL) (fun s=>MaIs m T x s.1 e n∧maA s.1 e n=(maA ts e n).looked m.mdl∧s.2.Is ((maA ts e n).looked m.mdl))
   (fun s=> .agg s.2.cells.toArray) (fun s=>s.2.mem ++maM m x s.1 e n):=by
 obtain⟨C,hC'⟩:∃C,C=(maA ts e n).looked m.mdl:=⟨_,rfl⟩;rw[←hC'];have htb:x.tbs.length=ts.length:=by rw[←h.tbs,Jf]
 have hCl:C.ts.length=ts.length:=by rw[hC'];simp[Vm.Ma.looked]
 have hbl:x.p.bs.length=m.bx.length:=by rw[←h.bx.at_,Jf];exact h.bx.len
 have hn2:=h.ok.n;refine JE [ptr x.xb] Tryz.func20 Tryz.ntmps20 fun w S=>?_
 (refine Jn ?_)
 repeat(refine Jy ?_;try first|intro ao cap|intro b)
 obtain⟨wb,rfl⟩:∃x,x=b:=⟨_,rfl⟩;obtain⟨rb,rfl⟩:∃x,x=b:=⟨_,rfl⟩;apply Cod.imp (fun w hm=>(hm.nilArr 102 enC).bagNil);refine Cod.only ((fun z=>old w S::md m::bxR x.p::blk rb [.slice none 0 0, .slice none 0 0, .int .i64 0] 36::blk wb [.slice z.2.2.1 z.1 z.2.2.2.1, .slice none 0 0, .int .i64 (n:Int)] 36::arr z.2.2.1 z.1 z.2.2.2.1 102 enC z.2.2.2.2::bag (z.2.2.2.2.map enM)::maM m x z.2.1 e n) (0,ts,none,0,[])) (tks) ?_;apply Cod.loop (σ:=Nat×List TkL×Option Addr×Nat×List EnL) (fun z=>z.1≤ts.length∧LkI m ts e z.1 z.2.1∧z.2.2.2.2.length=z.1∧z.2.2.2.2.map enOf=(C.ts.take z.1).map tkOf) (fun z=>[(0,ptr x.xb),(2,ptr rb),(3,ptr wb),(16, .slice x.to x.tbs.length x.tc),(17, .int .i64 (x.tbs.length:Int)),(18, .int .i64 (z.1:Int))]) (fun z=>old w S::md m::bxR x.p::blk rb [.slice none 0 0, .slice none 0 0, .int .i64 0] 36::blk wb [.slice z.2.2.1 z.1 z.2.2.2.1, .slice none 0 0, .int .i64 (n:Int)] 36::arr z.2.2.1 z.1 z.2.2.2.1 102 enC z.2.2.2.2::bag (z.2.2.2.2.map enM)::maM m x z.2.1 e n) (fun z=>ts.length-z.1) (0,ts,none,0,[])
 rotate_left
 exact sb;exact tks;intro z hz K1 hK1;(refine Jn ?_)
 rotate_left
 ·exact⟨Nat.zero_le _,LkI.zero h,rfl,rfl⟩
 obtain⟨q,us,eo,ec,ends⟩:=z;obtain⟨hq0,hl,he1,he2⟩:=hz;dsimp only at hq0 hl he1 he2 hK1⊢
 by_cases hq:q<ts.length
 ·have hCq:=hl.one h hq;rw[←hC']at hCq;obtain⟨t,ht⟩:∃t,t=us.getD q default:=⟨_,rfl⟩;have hz:=(hl.at_ q hq).2.1.sl (E:=E0 m x.p) h.bx;have hg:=h.good hl hq;have hnx:=hl.next h hq;have hlu:q<us.length:=by rw[hl.len];exact hq
  rw[←ht]at hz hg hnx hCq;have htbq:x.tbs.getD q default=t.tb:=by
   rw[←hl.tbs h,ht,Jd,Jd,JU,Je hlu];rfl
  have hout:t.out.length≤40000:=by
   have h1:=h.ok.looked.out (C.ts.getD q default) (by rw[hC'];exact h.ok.looked.at_ (by rw[←hC',hCl];exact hq));rw[hCq]at h1;have h2:t.out.length≤2*n:=h1;have h3:n≤20000:=hn2;omega
  apply Cod.imp (fun w hm=>by have:=Mem.tkOut (k:=q) hm (tk) hlu;rw[←ht]at this;exact this);(refine Jn ?_)
  repeat(refine Jy ?_;try first|intro ao cap|intro b)
  rw[htbq]
  repeat(refine Jy ?_;try first|intro ao cap|intro b)
  (refine Jc ?_;refine OpT.call0_ (spec:=look_task (E:=E0 m x.p) ⟨t.tb,x.mb,m⟩ (t.sl (E0 m x.p) e) hC hz rfl hg) (r:=(fun w=>Reads.md (tk) (Reads.any (tk) (bxR_excl x.p) .nil))) (k:=?_);intro s hs;(refine Jn ?_))
  repeat(refine Jy ?_;try first|intro ao cap|intro b)
  apply Cod.imp (fun w hm=>hm.nilArr 2 i64c);apply Cod.draw 23 ([tkM ⟨t.tb,x.mb,m⟩ ((t.sl (E0 m x.p) e).look m),blk wb [.slice eo q ec, .slice none 0 0, .int .i64 (n:Int)] 36]) (by kernel_rfl) 24 rfl;refine JR 0 ?_;refine JR 1 ?_;refine JR 2 ?_;refine JR 3 ?_;refine JR 4 ?_;refine JR 5 ?_;refine JR 6 ?_;refine JR 7 ?_;refine JR 8 ?_;refine JR 9 ?_;refine JR 10 ?_;refine JR 11 ?_;refine JR 12 ?_;refine JR 13 ?_;refine JR 14 ?_;refine JR 15 ?_;refine JR 16 ?_;refine JR 17 ?_;have hout':((t.sl (E0 m x.p) e).look m).out.length≤40000:=hout;(refine JT 18 ?_;refine OpT.appendS_ (l2:=t.out) (k:=?_);intro no nc;refine JG ?_);simp only[Nat.zero_add,Jk];refine JR 19 ?_;(refine JT 20 ?_;(first|refine Jw ?_|(refine Jb ?_;intro b)|(refine Ja ?_;intro ao cap));refine JG ?_);(refine JT 21 ?_;refine OpT.append1_ (a:=(⟨((t.sl (E0 m x.p) e).look m).st,((t.sl (E0 m x.p) e).look m).bx,((t.sl (E0 m x.p) e).look m).tr,no,nc,t.out⟩:EnL)) (k:=?_);intro ao cap;refine JG ?_;(refine Jn ?_));refine JR 22 ?_;(refine JT 23 ?_;(first|refine Jw ?_|(refine Jb ?_;intro b)|(refine Ja ?_;intro ao cap));refine JG ?_);(apply RunT.done;kernel_rfl)
  repeat(refine Jy ?_;try first|intro ao cap|intro b)
  obtain⟨X,hX⟩:∃X:EnL,X=⟨((t.sl (E0 m x.p) e).look m).st,((t.sl (E0 m x.p) e).look m).bx,((t.sl (E0 m x.p) e).look m).tr,no,nc,t.out⟩:=⟨_,rfl⟩;have hXe:enOf X=tkOf (C.ts.getD q default):=by rw[hCq,hX];rfl
  apply End.imp (fun w hm=>Mem.tkIn (told:=fun _=> .nilFunc) (t:=((t.sl (E0 m x.p) e).look m).lay t.tb) hm (tk) (tks) hlu);apply End.imp (fun w hm=>Mem.bagAdd (cs:=ends.map enM) (ds:=[enM X]) hm (tk) (by rw[hX];(repeat(first|exact Takes.nil|exact Take.head|apply Take.tail|apply Takes.cons))) (fun c hc=>by simp at hc;subst hc;exact arr_excl));have hmp:ends.map enM ++[enM X]=(ends ++[X]).map enM:=by simp
  rw[hmp,←hX];refine End.round0_ hK1 (q+1,us.set q (((t.sl (E0 m x.p) e).look m).lay t.tb),ao,cap,ends ++[X]) ?_ ?_
  ·refine⟨by dsimp only;omega,hnx,by simp[he1],?_⟩;have hqC:q<C.ts.length:=by omega
   dsimp only;rw[Jq,he2,Jp hqC,Jq];congr 1;simp only[List.map_cons,List.map_nil];rw[hXe,Jd,Je hqC];rfl
  ·dsimp only;omega
 ·obtain rfl:q=ts.length:=by omega
  obtain⟨d1,d2⟩:=hl.done h;clear hK1
  repeat(refine Jy ?_;try first|intro ao cap|intro b)
  apply Cod.imp (fun w hm=>(hm.nilArr 63 rwC).bagNil);refine Cod.only ((fun z=>old w S::bxR x.p::blk rb [.slice none 0 0, .slice none 0 0, .int .i64 0] 36::blk wb [.slice eo ts.length ec, .slice z.2.1 z.1 z.2.2.1, .int .i64 (n:Int)] 36::arr eo ts.length ec 102 enC ends::bag (ends.map enM)::arr z.2.1 z.1 z.2.2.1 63 rwC z.2.2.2::bag (z.2.2.2.map (rowM 2))::maM m x us e n) (0,none,0,[])) (tks) ?_;apply Cod.loop (σ:=Nat×Option Addr×Nat×List Rw) (fun z=>z.1≤m.bx.length∧z.2.2.2.length=z.1∧z.2.2.2.map (·.l)=e.abs.ws.take z.1) (fun z=>[(2,ptr rb),(3,ptr wb),(51, .slice x.p.bo x.p.bs.length x.p.bc),(52, .int .i64 (x.p.bs.length:Int)),(53, .int .i64 (z.1:Int))]) (fun z=>old w S::bxR x.p::blk rb [.slice none 0 0, .slice none 0 0, .int .i64 0] 36::blk wb [.slice eo ts.length ec, .slice z.2.1 z.1 z.2.2.1, .int .i64 (n:Int)] 36::arr eo ts.length ec 102 enC ends::bag (ends.map enM)::arr z.2.1 z.1 z.2.2.1 63 rwC z.2.2.2::bag (z.2.2.2.map (rowM 2))::maM m x us e n) (fun z=>m.bx.length-z.1) (0,none,0,[])
  rotate_left
  exact sb;exact tks;intro z hz K1 hK1;(refine Jn ?_)
  rotate_left
  ·exact⟨Nat.zero_le _,rfl,rfl⟩
  obtain⟨q,wo,wc,rows⟩:=z;obtain⟨y1,y2,y3⟩:=hz;dsimp only at y1 y2 y3 hK1⊢
  by_cases hq:q<m.bx.length
  ·obtain⟨s1,u1,r,h1,h2,h3,h4,h5,h6,h7⟩:=h.bx.split hq;have hrn:r.ws.length≤20:=by have:=r.len;have:=h3.n;have:=h3.cap;omega
   apply Cod.imp (fun w hm=>Mem.rgOut hm (tk) h1)
   repeat(refine Jy ?_;try first|intro ao cap|intro b)
   rw[h5];apply Cod.draw 7 ([blk wb [.slice eo ts.length ec, .slice wo q wc, .int .i64 (n:Int)] 36]) (by kernel_rfl) 8 rfl;refine JR 0 ?_;refine JR 1 ?_;refine JR 2 ?_;(refine JT 3 ?_;refine JK (words_rg r h3) ?_;intro s hs;refine JG ?_;(refine Jn ?_));obtain⟨no,nc⟩:=s;dsimp only;(refine JT 4 ?_;(first|refine Jw ?_|(refine Jb ?_;intro b)|(refine Ja ?_;intro ao cap));refine JG ?_);(refine JT 5 ?_;refine OpT.append1_ (a:=(⟨no,nc,r.ws⟩:Rw)) (k:=?_);intro ao cap;refine JG ?_;(refine Jn ?_));refine JR 6 ?_;(refine JT 7 ?_;(first|refine Jw ?_|(refine Jb ?_;intro b)|(refine Ja ?_;intro ao cap));refine JG ?_);(apply RunT.done;kernel_rfl)
   repeat(refine Jy ?_;try first|intro ao cap|intro b)
   apply End.imp (fun w hm=>Mem.rgIn (p:=x.p) (e:=e) (s:=s1) (u:=u1) (r:=r) hm (tks));rw[←h1];apply End.imp (fun w hm=>Mem.bagAdd (cs:=rows.map (rowM 2)) (ds:=[rowM 2 ⟨no,nc,r.ws⟩]) hm (tk) (tks) (fun c hc=>by simp at hc;subst hc;exact arr_excl));have hmp:rows.map (rowM 2) ++[rowM 2 ⟨no,nc,r.ws⟩]=(rows ++[(⟨no,nc,r.ws⟩:Rw)]).map (rowM 2):=by simp
   rw[hmp];refine End.round0_ hK1 (q+1,ao,cap,rows ++[⟨no,nc,r.ws⟩]) ?_ ?_
   ·refine⟨by dsimp only;omega,by simp[y2],?_⟩;have hqe:q<e.abs.ws.length:=by show q<(e.rs.map Ring.ws).length;rw[Jf];have h9:e.rs.length=m.bx.length:=h.bx.len;omega
    dsimp only;rw[Jq,y3,Jp hqe];congr 1;simp only[List.map_cons,List.map_nil];rw[←h6,Jd,Je hqe];rfl
   ·dsimp only;omega
  ·obtain rfl:q=m.bx.length:=by omega
   clear hK1
   repeat(refine Jy ?_;try first|intro ao cap|intro b)
   obtain⟨R,hR⟩:∃R:WoL,R=⟨eo,ec,ends,wo,wc,rows,n⟩:=⟨_,rfl⟩;refine End.doneC1_ ((us,R):List TkL×WoL) (he:=by rw[hR];simp only[WoL.cells,he1,y2]) (hF:=by(subst hR;simp only[WoL.mem,he1,y2,List.cons_append,Jk];exact tks)) (hp:=?_) (hx:=by simp[blk_excl,arr_excl,bag_excl,bxM_excl,tksM_excl]);subst hR;have hel:e.abs.ws.length=m.bx.length:=by show(e.rs.map Ring.ws).length=_;rw[Jf];exact h.bx.len
   refine⟨d1,d2.trans hC'.symm,⟨?_,?_,?_⟩⟩
   ·dsimp only;rw[he2,List.take_of_length_le (by omega)]
   ·dsimp only;rw[y3,List.take_of_length_le (by omega),hC'];rfl
   ·dsimp only;rw[hC'];rfl
end
theorem feet_app{R pre:List Chunk}(hR:∀c∈R,c.excl=false):feet (R ++pre)=feet pre:=by
 funext b
 simp only[feet,eq_iff_iff];constructor
 ·rintro⟨c,hc,hx,hb⟩;rcases List.mem_append.1 hc with hc|hc
  ·rw[hR c hc]at hx;cases hx
  ·exact⟨c,hc,hx,hb⟩
 ·rintro⟨c,hc,hx,hb⟩;exact⟨c,List.mem_append_right _ hc,hx,hb⟩
theorem Fn.conv{P:Program}{f:FuncId}{args:Array Value}{σ τ:Type}{R pre pre' F:List Chunk}{post:σ→Prop}{val:σ→Value}{mem:σ→List Chunk}{post':τ→Prop}{val':τ→Value}{mem':τ→List Chunk}(hR:∀c∈R,c.excl=false)
  (spec:Fn P f args R pre' post' val' mem') (hin:∀w G,Mem w (pre ++G)→Mem w (pre' ++(F ++G)))
  (hout:∀w G x,post' x→Mem w (mem' x ++(F ++G))→∃y,post y∧val' x=val y∧(∀c∈mem y,c.excl=true)∧Mem w (mem y ++G)):Fn P f args R pre post val mem:=by
 intro w hm;have h0:=hm.since;rw[feet_app hR]at h0;have h1:Mem w (pre ++(R ++[old w (feet pre)])):=by
  refine h0.perm ?_;rw[←Jt];exact(List.perm_append_comm (l₁:=[old w (feet pre)]) (l₂:=R ++pre)).trans (List.Perm.append_right _ List.perm_append_comm)
 have h2:=hin w _ h1;have h3:Mem w (R ++pre'):=by
  refine Mem.left (M:=F ++[old w (feet pre)]) (h2.perm ?_);have p1:(pre' ++(F ++(R ++[old w (feet pre)]))).Perm (pre' ++(R ++(F ++[old w (feet pre)]))):=List.Perm.append_left _ (List.perm_append_comm_assoc _ _ _);have p2:(pre' ++(R ++(F ++[old w (feet pre)]))).Perm (R ++(pre' ++(F ++[old w (feet pre)]))):=List.perm_append_comm_assoc _ _ _;have:=p1.trans p2;rwa [←Jt R]at this
 refine(spec w h3).mono ?_;rintro e w' ⟨x,hp,rfl,hx,hM⟩;have h4:=h2.frame hM hx;obtain⟨y,g1,g2,g3,g4⟩:=hout w' _ x hp h4;refine⟨y,g1,by rw[g2],g3,?_⟩;refine Mem.left (M:=R) (g4.perm ?_);have p1:(mem y ++(R ++[old w (feet pre)])).Perm (mem y ++([old w (feet pre)] ++R)):=List.Perm.append_left _ List.perm_append_comm;refine p1.trans ?_;have p2:(mem y ++([old w (feet pre)] ++R)).Perm ([old w (feet pre)] ++(mem y ++R)):=List.perm_append_comm_assoc _ _ _;exact p2
theorem map_set_tk(l:List TkL)(k:Nat)(t:TkL):(l.set k t).map TkL.tk=(l.map TkL.tk).set k t.tk:=List.map_set
abbrev tdV(p:BxP)(told:Bool):Nat→Value:=fun k=>toldV (toldOf p (Vm.tOf told k))
abbrev maB(m:ML)(x:MaP)(told:Bool)(ts:List TkL)(e:BxE)(n:Nat):List Chunk:=[blk x.xb (maC x.to x.tbs.length x.tc x.p.bo x.p.bs.length x.p.bc n) 54,blk x.mb (mdV m) 25,arr x.to x.tbs.length x.tc 55 ptrC x.tbs,bxM x.p e,tksM x.mb (bxV x.p.bo x.p.bs.length x.p.bc) (tdV x.p told) ts]
set_option maxHeartbeats 1000000 in
theorem pickB_is(m:ML){T:Nat→Int→Option Ver.Shape}(hC:Vm.Certs m.mdl T)(x:MaP)(ts:List TkL)(e:BxE)(n:Nat)(h:MaIs m T x ts e n)(hn:ts.length≤30)(told:Bool)(hK:∀k,k<ts.length→KOk x.p (Vm.tOf told k))(tk q:Int):
  Fn Tryz.prog 16 #[ptr x.xb, .agg #[.int .i64 tk, .int .i64 q]] [md m,bxR x.p] (maB m x told ts e n) (σ:=List TkL×BxE)
   (fun s=>MaIs m T x s.1 s.2 (Vm.pick m.mdl told (maA ts e n) (tk,q)).2.n∧s.1.length=ts.length∧maA s.1 s.2 (Vm.pick m.mdl told (maA ts e n) (tk,q)).2.n=(Vm.pick m.mdl told (maA ts e n) (tk,q)).2)
   (fun _=> .agg #[.int .i64 (Vm.pick m.mdl told (maA ts e n) (tk,q)).1.1, .int .i64 ((Vm.pick m.mdl told (maA ts e n) (tk,q)).1.2:Int)])
   (fun s=>maB m x told s.1 s.2 (Vm.pick m.mdl told (maA ts e n) (tk,q)).2.n):=by
 have htb:x.tbs.length=ts.length:=by rw[←h.tbs,Jf]
 have hel:∀(us:List TkL) (e':BxE) (n':Nat),∀c∈maB m x told us e' n',c.excl=true:=fun us e' n'=>by simp[blk_excl,arr_excl,bxM_excl,tksM_excl]
 by_cases h1:tk<0∨(ts.length:Int)≤tk
 ·have hp:Vm.pick m.mdl told (maA ts e n) (tk,q)=((3,0),maA ts e n):=by
   unfold Vm.pick;rw[if_pos (by show tk<0∨((ts.map TkL.tk).length:Int)≤tk;rw[Jf];exact h1)]
  rw[hp];refine Fn.conv (F:=(maB m x told ts e n).tail) (by simp[md_excl,rd_excl]) ?_ ?_ ?_ (pre':=[blk x.xb (maC x.to x.tbs.length x.tc x.p.bo x.p.bs.length x.p.bc n) 54]) (σ:=List TkL×BxE) (τ:=Unit) (post':=fun _=>True) (val':=fun _=> .agg #[.int .i64 3, .int .i64 0]) (mem':=fun _=>[blk x.xb (maC x.to x.tbs.length x.tc x.p.bo x.p.bs.length x.p.bc n) 54])
  ·intro w hm;have:=pickOut_is x.xb x.to x.tc x.tbs.length x.p.bo x.p.bs.length x.p.bc n tk q (by omega) w (Mem.right (L:=[md m,bxR x.p]) hm);exact this
  ·intro w G hm;exact hm
  ·intro w G s _ hm;exact⟨(ts,e),⟨h,rfl,rfl⟩,rfl,hel _ _ _,hm⟩
 ·obtain⟨k,rfl⟩:=JI (show 0≤tk by omega);have hk:k<ts.length:=by omega
  obtain⟨t,ht⟩:∃t,t=ts.getD k default:=⟨_,rfl⟩
  let E:=bxEnv m.mdl x.p (Vm.tOf told k) (hK k hk)
  have htm:t∈ts:=by rw[ht];exact tkl_mem hk
  have hcm:t.tk∈(maA ts e n).ts:=List.mem_map.2 ⟨t,htm,rfl⟩;have hz:=(h.wf t htm).sl (E:=E) h.bx;have hg:Vm.Good m.mdl T (Vm.KB m.mdl) (t.sl (E) e).two:=h.ok.good _ hcm;have ho:(t.sl (E) e).out.length≤2*n:=h.ok.out _ hcm;have hat:(maA ts e n).at_ k=(t.sl (E) e).two:=by
   show((ts.map TkL.tk).getD k default,e.abs)=(t.tk,e.abs);rw[ht,Jd,JU,Je hk,Jd,Je hk];rfl
  have htbk:x.tbs.getD k 0=t.tb:=by
   rw[←h.tbs,ht,Jd,Jd,JU,Je hk];rfl
  have hsp:=pick_is (E:=E) ⟨t.tb,x.mb,m⟩ x.xb x.to x.tc x.tbs x.p.bo x.p.bs.length x.p.bc n k q (by omega) htbk (t.sl (E) e) hC (Vm.bxs_ok m.mdl (Vm.tOf told k)) hz rfl hg h.ok.n ho h.ok.log (by omega);obtain⟨R,hR⟩:∃R,R=Vm.pick1 (Vm.bxs m.mdl (Vm.tOf told k)) m.mdl n q (t.sl (E) e).two:=⟨_,rfl⟩;have hsp':Fn Tryz.prog 16 #[ptr x.xb, .agg #[.int .i64 (k:Int), .int .i64 q]] [md m,bxR x.p] (blk x.xb (maC x.to x.tbs.length x.tc x.p.bo x.p.bs.length x.p.bc n) 54::arr x.to x.tbs.length x.tc 55 ptrC x.tbs::TM ⟨t.tb,x.mb,m⟩ (t.sl (E) e)) (σ:=SL (E)) (Gives (t.sl (E) e) R.2) (fun _=> .agg #[.int .i64 R.1.1, .int .i64 (R.1.2:Int)]) (fun z'=>blk x.xb (maC x.to x.tbs.length x.tc x.p.bo x.p.bs.length x.p.bc (n+R.1.2)) 54::arr x.to x.tbs.length x.tc 55 ptrC x.tbs::TM ⟨t.tb,x.mb,m⟩ z'):=by rw[hR];exact hsp
  have hp:Vm.pick m.mdl told (maA ts e n) ((k:Int),q)=(R.1,⟨(ts.map TkL.tk).set k R.2.1,R.2.2,n+R.1.2⟩):=by
   unfold Vm.pick;rw[if_neg (by show¬((k:Int)<0∨((ts.map TkL.tk).length:Int)≤(k:Int));rw[Jf];omega)];show _=_;rw[hR,←hat];rfl
  have hok':=h.ok.pick hC told ((k:Int),q);rw[hp]at hok'⊢;refine Fn.conv (F:=[tksO x.mb (bxV x.p.bo x.p.bs.length x.p.bc) (tdV x.p told) ts k]) (by simp[md_excl,rd_excl]) hsp' ?_ ?_
  ·intro w G hm;have h2:=Mem.tkOut (k:=k) hm (show Take (tksM x.mb (bxV x.p.bo x.p.bs.length x.p.bc) (tdV x.p told) ts) _ _ from .tail (.tail (.tail (.tail .head)))) hk;rw[←ht]at h2;exact h2.takes (tks)
  ·intro w G z' hz' hm;obtain⟨w1,w2⟩:=hz';have htk:(z'.lay t.tb).tk=R.2.1:=congrArg (·.1) w2;have hbs:BxE.abs z'.e=R.2.2:=congrArg (·.2) w2;have hA:maA (ts.set k (z'.lay t.tb)) z'.e (n+R.1.2)=⟨(ts.map TkL.tk).set k R.2.1,R.2.2,n+R.1.2⟩:=by
    simp only[maA,map_set_tk,htk,hbs]
   refine⟨(ts.set k (z'.lay t.tb),z'.e),⟨⟨?_,fun y hy=>?_,w1.env,by rw[hA];exact hok'⟩,by simp,hA⟩,rfl,hel _ _ _,?_⟩
   ·dsimp only;rw[List.map_set,h.tbs];refine List.ext_getElem (by simp) fun j h1 h2=>?_
    rw[List.getElem_set]
    split
    ·rename_i hkj;subst hkj
     rw[Jd,Je h2]at htbk;exact htbk.symm
    ·rfl
   ·rcases List.mem_or_eq_of_mem_set hy with hy|rfl
    ·exact h.wf y hy
    ·exact w1.lay _
   ·have h3:=Mem.tkIn (told:=tdV x.p told) (t:=z'.lay t.tb) hm (show Take (tksO x.mb (bxV x.p.bo x.p.bs.length x.p.bc) (tdV x.p told) ts k) _ _ from tk) (tks) hk;exact h3.takes (tks)
theorem pickA_is(m:ML){T:Nat→Int→Option Ver.Shape}(hC:Vm.Certs m.mdl T)(x:MaP)(ts:List TkL)(e:BxE)(n:Nat)(h:MaIs m T x ts e n)(hn:ts.length≤30)(tk q:Int):
  Fn Tryz.prog 16 #[ptr x.xb, .agg #[.int .i64 tk, .int .i64 q]] [md m,bxR x.p] (maM m x ts e n) (σ:=List TkL×BxE)
   (fun s=>MaIs m T x s.1 s.2 (Vm.pick m.mdl false (maA ts e n) (tk,q)).2.n∧s.1.length=ts.length∧maA s.1 s.2 (Vm.pick m.mdl false (maA ts e n) (tk,q)).2.n=(Vm.pick m.mdl false (maA ts e n) (tk,q)).2)
   (fun _=> .agg #[.int .i64 (Vm.pick m.mdl false (maA ts e n) (tk,q)).1.1, .int .i64 ((Vm.pick m.mdl false (maA ts e n) (tk,q)).1.2:Int)])
   (fun s=>maM m x s.1 s.2 (Vm.pick m.mdl false (maA ts e n) (tk,q)).2.n):=pickB_is m hC x ts e n h hn false (fun _ _=>trivial) tk q
structure AlP where
 ab:Nat
 to:Option Addr
 tc:Nat
 tbs:List Nat
 p:WxP
abbrev alM(m:ML)(x:AlP)(ts:List RkL)(e:List Rw)(n:Nat):List Chunk:=[blk x.ab (alC x.to x.tbs.length x.tc x.p.bb n) 76,arr x.to x.tbs.length x.tc 72 ptrC x.tbs,wxM x.p e,rksM m ts]
abbrev alA(ts:List RkL)(e:List Rw)(n:Nat):Vm.Ma:=⟨ts.map RkL.tk,wxAbs e,n⟩
structure AlIs(m:ML)(T:Nat→Int→Option Ver.Shape)(x:AlP)(ts:List RkL)(e:List Rw)(n:Nat):Prop where
 tbs:ts.map (·.tb)=x.tbs
 wf:∀t∈ts,t.Wf
 bx:WxOk m.mdl x.p e
 ok:(alA ts e n).Ok m.mdl T
 log:∀t∈ts,t.log.length≤2*n
theorem rk_set_tk(l:List RkL)(k:Nat)(t:RkL):(l.set k t).map RkL.tk=(l.map RkL.tk).set k t.tk:=List.map_set
theorem rk_tbs{ts:List RkL}{x:AlP}(h:ts.map (·.tb)=x.tbs){k:Nat}(hk:k<ts.length):x.tbs.getD k 0=(ts.getD k default).tb:=by
 rw[←h,Jd,Jd,JU,Je hk];rfl
theorem tbs_set{ts:List RkL}{x:AlP}(h:ts.map (·.tb)=x.tbs){k:Nat}(hk:k<ts.length){t:RkL}(ht:t.tb=(ts.getD k default).tb):(ts.set k t).map (·.tb)=x.tbs:=by
 rw[←h,List.map_set];refine List.ext_getElem (by simp) fun j h1 h2=>?_
 rw[List.getElem_set]
 split
 ·rename_i e
  subst e;rw[ht,Jd,Je hk];simp
 ·rfl
structure PkIs(m:ML)(T:Nat→Int→Option Ver.Shape)(x:AlP)(ts:List RkL)(e:List Rw)(n:Nat)(p:Int×Int)(ts':List RkL)(e':List Rw):Prop where
 is:AlIs m T x ts' e' (Vm.pick m.mdl false (alA ts e n) p).2.n
 len:ts'.length=ts.length
 ma:alA ts' e' (Vm.pick m.mdl false (alA ts e n) p).2.n=(Vm.pick m.mdl false (alA ts e n) p).2
 log:∀j,j<ts.length→(ts'.getD j default).log=(ts.getD j default).log ++if(j:Int)=p.1 then Vm.pe m.mdl (alA ts e n) p else []
set_option maxHeartbeats 1000000 in
theorem pick10_is(m:ML){T:Nat→Int→Option Ver.Shape}(hC:Vm.Certs m.mdl T)(x:AlP)(ts:List RkL)(e:List Rw)(n:Nat)(h:AlIs m T x ts e n)(hn:ts.length≤30)(tk q:Int):
  Fn Tryz.prog 19 #[ptr x.ab, .agg #[.int .i64 tk, .int .i64 q]] [md m,wxR x.p] (alM m x ts e n) (σ:=List RkL×List Rw)
   (fun s=>PkIs m T x ts e n (tk,q) s.1 s.2)
   (fun _=> .agg #[.int .i64 (Vm.pick m.mdl false (alA ts e n) (tk,q)).1.1, .int .i64 ((Vm.pick m.mdl false (alA ts e n) (tk,q)).1.2:Int)])
   (fun s=>alM m x s.1 s.2 (Vm.pick m.mdl false (alA ts e n) (tk,q)).2.n):=by
 have htb:x.tbs.length=ts.length:=by rw[←h.tbs,Jf]
 have hel:∀(us:List RkL) (e':List Rw) (n':Nat),∀c∈alM m x us e' n',c.excl=true:=fun us e' n'=>by simp[blk_excl,arr_excl,wxM_excl,rksM_excl]
 by_cases h1:tk<0∨(ts.length:Int)≤tk
 ·have hp:Vm.pick m.mdl false (alA ts e n) (tk,q)=((3,0),alA ts e n):=by
   unfold Vm.pick;rw[if_pos (by show tk<0∨((ts.map RkL.tk).length:Int)≤tk;rw[Jf];exact h1)]
  have hpe:Vm.pe m.mdl (alA ts e n) (tk,q)=[]:=Vm.pe_none (by rw[hp];exact(by decide:(3:Int)≠0));have key:PkIs m T x ts e n (tk,q) ts e:=by
   refine⟨by rw[hp];exact h,rfl,by rw[hp],fun j hj=>?_⟩;rw[hpe];simp
  rw[hp];refine Fn.conv (F:=(alM m x ts e n).tail) (by simp[md_excl,rd_excl]) ?_ ?_ ?_ (pre':=[blk x.ab (alC x.to x.tbs.length x.tc x.p.bb n) 76]) (σ:=List RkL×List Rw) (τ:=Unit) (post':=fun _=>True) (val':=fun _=> .agg #[.int .i64 3, .int .i64 0]) (mem':=fun _=>[blk x.ab (alC x.to x.tbs.length x.tc x.p.bb n) 76])
  ·intro w hm;have:=pick9Out_is x.ab x.to x.tc x.tbs.length x.p.bb n tk q (by omega) w (Mem.right (L:=[md m,wxR x.p]) hm);exact this
  ·intro w G hm;exact hm
  ·intro w G s _ hm;exact⟨(ts,e),key,rfl,hel _ _ _,hm⟩
 ·obtain⟨k,rfl⟩:=JI (show 0≤tk by omega);have hk:k<ts.length:=by omega
  obtain⟨t,ht⟩:∃t,t=ts.getD k default:=⟨_,rfl⟩
  let E:=wxEnv m.mdl x.p
  have htm:t∈ts:=by rw[ht];exact rk_mem hk
  have hcm:t.tk∈(alA ts e n).ts:=List.mem_map.2 ⟨t,htm,rfl⟩;have hz:=(h.wf t htm).rt (E:=E) h.bx;have hg:Vm.Good m.mdl T (KW m.mdl x.p) (t.rt E e).two:=h.ok.good _ hcm;have ho:t.out.length≤2*n:=h.ok.out _ hcm;have hat:(alA ts e n).at_ k=(t.tk,wxAbs e):=by
   show((ts.map RkL.tk).getD k default,wxAbs e)=_;rw[ht,Jd,JU,Je hk,Jd,Je hk];rfl
  have hsp:=pick9_is m x.p x.ab x.to x.tc x.tbs n k t.tb q (by omega) (by rw[rk_tbs h.tbs hk,←ht]) (t.rt E e) hC hz hg h.ok.n ho (h.log t htm) (by omega);obtain⟨R,hR⟩:∃R,R=Vm.pick1 E.W m.mdl n q (t.rt E e).two:=⟨_,rfl⟩;obtain⟨w1,w2,w3,w4⟩:=Vm.pick1W (E:=E) (wx_tell m.mdl x.p) (M:=m.mdl) (n:=n) (q:=q) (t:=t.tk) (s:=wxAbs e) (l:=t.log);change (Vm.pick1 E.W m.mdl n q (t.rt E e).two).1=_ at w1;change (Vm.pick1 E.W m.mdl n q (t.rt E e).two).2.1=_ at w2;change (Vm.pick1 E.W m.mdl n q (t.rt E e).two).2.2.1=_ at w3;change (Vm.pick1 E.W m.mdl n q (t.rt E e).two).2.2.2=_ at w4;rw[←hR]at hsp w1 w2 w3 w4;have hp:Vm.pick m.mdl false (alA ts e n) ((k:Int),q)=(R.1,⟨(ts.map RkL.tk).set k R.2.1,R.2.2.1,n+R.1.2⟩):=by
   unfold Vm.pick;rw[if_neg (by show¬((k:Int)<0∨((ts.map RkL.tk).length:Int)≤(k:Int));rw[Jf];omega),w1,w2,w3];show _=_;dsimp only;rw[Jj,hat];rfl
  have hpe:Vm.pe m.mdl (alA ts e n) ((k:Int),q)=Vm.pev E.V m.mdl n q (t.tk,wxAbs e):=by
   unfold Vm.pe;rw[if_neg (by show¬((k:Int)<0∨((ts.map RkL.tk).length:Int)≤(k:Int));rw[Jf];omega)];dsimp only;rw[Jj,hat]
  have hpl:=Vm.pe_len m.mdl (alA ts e n) ((k:Int),q);have hok':=h.ok.pick hC false ((k:Int),q);rw[hp]at hok' hpl⊢;refine Fn.conv (F:=[rksM m (ts.eraseIdx k)]) (by simp[md_excl,rd_excl]) hsp ?_ ?_
  ·intro w G hm;have h2:=Mem.rkOut (k:=k) hm (show Take (rksM m ts) _ _ from .tail (.tail (.tail .head))) hk;rw[←ht]at h2;exact h2.takes (tks)
  ·intro w G z' hz' hm;obtain⟨g1,g2⟩:=hz';have htk:(z'.lay t.tb).tk=R.2.1:=congrArg (·.1) g2;have hbs:wxAbs z'.e=R.2.2.1:=congrArg (·.2.1) g2;have hlg:z'.log=R.2.2.2:=congrArg (·.2.2) g2;have hA:alA (ts.set k (z'.lay t.tb)) z'.e (n+R.1.2)=⟨(ts.map RkL.tk).set k R.2.1,R.2.2.1,n+R.1.2⟩:=by
    simp only[alA,rk_set_tk,htk,hbs]
   refine⟨(ts.set k (z'.lay t.tb),z'.e),?_,rfl,hel _ _ _,?_⟩
   ·refine⟨?_,by simp,by rw[hp];exact hA,fun j hj=>?_⟩
    ·rw[hp];refine⟨tbs_set h.tbs hk (by rw[←ht]),fun y hy=>?_,g1.env,by rw[hA];exact hok',fun y hy=>?_⟩
     ·rcases List.mem_or_eq_of_mem_set hy with hy|rfl
      ·exact h.wf y hy
      ·exact g1.lay _
     ·rcases List.mem_or_eq_of_mem_set hy with hy|rfl
      ·have:=h.log y hy;dsimp only;omega
      ·show z'.log.length≤2*(n+R.1.2);have h3:=h.log t htm;rw[hlg,w4,Jl,←hpe];dsimp only at hpl;omega
    ·dsimp only
     by_cases ejk:k=j
     ·subst ejk;rw[if_pos rfl,Jd,JS hk,←ht,hpe,←w4,←hlg];rfl
     ·rw[if_neg (fun h=>ejk (by omega)),List.append_nil];simp only[Jd];rw[List.getElem?_set_ne ejk]
   ·have h3:=Mem.rkIn (t:=z'.lay t.tb) hm (show Take (rksM m (ts.eraseIdx k)) _ _ from tk) (tks) hk;exact h3.takes (tks)
attribute [local irreducible] Run Cod End OpT Still RunQ RunS RunT Fn PutOk
abbrev frs0(u fb:Nat)(wo:Option Addr)(wc:Nat)(ws:List Int):RC:=⟨2, -1,some ⟨fb,0,none⟩,1,[⟨u,0,0⟩],wo,wc,ws⟩
abbrev RkL.born(tb ob u fb:Nat)(wo:Option Addr)(wc:Nat)(ws:List Int):RkL:=⟨tb,some ⟨ob,0,none⟩,1,[frs0 u fb wo wc ws],0,frs0 u fb wo wc ws,1,0,0,none,0,[],none,0,[]⟩
theorem rkborn_wf(tb ob u fb:Nat)(wo:Option Addr)(wc:Nat)(ws:List Int):(RkL.born tb ob u fb wo wc ws).Wf:=⟨Nat.zero_lt_one,by show 1≤31;omega, .inl (by show(1:Int)≤3;omega)⟩
theorem rkborn_tk(m:ML)(tb ob u fb:Nat)(wo:Option Addr)(wc:Nat):(RkL.born tb ob u fb wo wc (Vm.begin m.mdl u []).ws).tk=Vm.new m.mdl u:=by
 unfold RkL.tk Vm.new;show(⟨[RC.abs (frs0 u fb wo wc (Vm.begin m.mdl u []).ws)],0,1,0,0,[]⟩:Vm.Tk)=_;unfold RC.abs;simp only;rw[if_neg (fun h=>by omega)];rfl
structure NwL where
 ab:Nat
 bb:Nat
 co:Option Addr
 cc:Nat
 wo:Option Addr
 wc:Nat
 to:Option Addr
 tc:Nat
 ts:List RkL
structure NwL.Ok(m:ML)(s:NwL):Prop where
 ts:s.ts.map RkL.tk=(Vm.tasks m.mdl).map (Vm.new m.mdl)
 wf:∀t∈s.ts,t.Wf∧t.log=[]
abbrev nulls(n:Nat):List Rw:=List.replicate n ⟨none,0,[]⟩
abbrev NwL.mem(m:ML)(s:NwL):List Chunk:=[blk s.ab (alC s.to s.ts.length s.tc s.bb 0) 76,arr s.to s.ts.length s.tc 72 ptrC (s.ts.map (·.tb)),blk s.bb [.slice s.co m.bx.length s.cc, .slice s.wo m.bx.length s.wc] 97,arr s.co m.bx.length s.cc 3 i64c (m.bx.map (·.2)),arr s.wo m.bx.length s.wc 63 rwC (nulls m.bx.length),bag ((nulls m.bx.length).map (rowM 2)),rksM m s.ts]
theorem take_caps(m:ML){q:Nat}(hq:q<m.bx.length):(m.bx.take q).map (·.2) ++[(m.bx.getD q default).2]=(m.bx.take (q+1)).map (·.2):=by
 rw[Jp hq,Jq,Jd,Je hq];rfl
theorem nulls_succ(n:Nat):nulls n ++[⟨none,0,[]⟩]=nulls (n+1):=List.replicate_succ'.symm
theorem Mem.nullsIn{w:World}{L:List Chunk}(t:TypeId)(n:Nat)(h:Mem w L):Mem w (bag ((nulls n).map (rowM t))::L):=by
 have key:∀n:Nat,Mem w ((nulls n).map (rowM t) ++L):=fun n=>by
  induction n with
  |zero=>exact h
  |succ n ih=>rw[show nulls (n+1)=⟨none,0,[]⟩::nulls n from List.replicate_succ,List.map_cons];exact ih.nilArr t i64c
 exact Mem.pack (key n) (fun c hc=>by
  obtain⟨r, -,rfl⟩:=List.mem_map.1 hc;exact arr_excl)
set_option maxHeartbeats 2000000 in
theorem new10_is(m:ML)(hb30:m.bx.length≤30)(hu30:m.us.length≤30)(hloc:∀k,k<m.us.length→(m.us.getD k default).u.locals.length≤200):
  Fn Tryz.prog 18 #[m.val] [md m] [] (σ:=NwL) (NwL.Ok m) (fun s=>ptr s.ab) (NwL.mem m):=by
 have htl:(Vm.tasks m.mdl).length≤30:=by
  rw[tasks_eq];have:=tasks_len m m.us.length;omega
 refine Fn.enter (args:=[m.val]) Tryz.func18 rfl _ Tryz.ntmps18 rfl (by simp[md_excl,rd_excl]) (fun w S=>?_);(refine Jn ?_)
 repeat(refine Jy ?_;try first|intro ao cap|intro b)
 obtain⟨ab,rfl⟩:∃x,x=b:=⟨_,rfl⟩;obtain⟨bb,rfl⟩:∃x,x=b:=⟨_,rfl⟩;obtain⟨mb,rfl⟩:∃x,x=b:=⟨_,rfl⟩;apply Cod.imp (fun w hm=>((hm.nilArr 3 i64c).nilArr 63 rwC).bagNil);refine Cod.only ((fun z=>[old w S,md m,blk mb (mdV m) 25,blk ab (alC none 0 0 bb 0) 76,blk bb [.slice z.2.1 z.1 z.2.2.1, .slice z.2.2.2.1 z.1 z.2.2.2.2] 97,arr z.2.1 z.1 z.2.2.1 3 i64c ((m.bx.take z.1).map (·.2)),arr z.2.2.2.1 z.1 z.2.2.2.2 63 rwC (nulls z.1),bag []]) (0,none,0,none,0)) (tks) ?_;apply Cod.loop (σ:=Nat×Option Addr×Nat×Option Addr×Nat) (fun z=>z.1≤m.bx.length) (fun z=>[(1,ptr mb),(3,ptr ab),(13, .slice m.bo m.bx.length m.bc),(14, .int .i64 (m.bx.length:Int)),(15, .int .i64 (z.1:Int))]) (fun z=>[old w S,md m,blk mb (mdV m) 25,blk ab (alC none 0 0 bb 0) 76,blk bb [.slice z.2.1 z.1 z.2.2.1, .slice z.2.2.2.1 z.1 z.2.2.2.2] 97,arr z.2.1 z.1 z.2.2.1 3 i64c ((m.bx.take z.1).map (·.2)),arr z.2.2.2.1 z.1 z.2.2.2.2 63 rwC (nulls z.1),bag []]) (fun z=>m.bx.length-z.1) (0,none,0,none,0)
 rotate_left
 exact sb;exact tks;intro z hz K1 hK1;(refine Jn ?_)
 rotate_left
 ·exact Nat.zero_le _
 obtain⟨q,co,cc,wo,wc⟩:=z;dsimp only at hz hK1⊢
 by_cases hq:q<m.bx.length
 ·have ht:=take_caps m hq;have hr:=nulls_succ q
  repeat(refine Jy ?_;try first|intro ao cap|intro b)
  obtain⟨ib,rfl⟩:∃x,x=b:=⟨_,rfl⟩;apply Cod.draw 17 ([blk ab (alC none 0 0 bb 0) 76,blk bb [.slice co q cc, .slice wo q wc] 97,blk ib [.int .i64 (m.bx.getD q default).1, .int .i64 (m.bx.getD q default).2] 90]) (by kernel_rfl) 18 rfl;refine JR 0 ?_;refine JR 1 ?_;refine JR 2 ?_;refine JR 3 ?_;refine JR 4 ?_;refine JR 5 ?_;refine JR 6 ?_;refine JR 7 ?_;refine JR 8 ?_;refine JR 9 ?_;refine JR 10 ?_;refine JR 11 ?_;refine JR 12 ?_;(refine JT 13 ?_;(first|refine Jw ?_|(refine Jb ?_;intro b)|(refine Ja ?_;intro ao cap));refine JG ?_);(refine JT 14 ?_;refine OpT.append1_ (a:=(m.bx.getD q default).2) (k:=?_);intro ao cap;refine JG ?_;(refine Jn ?_));refine JR 15 ?_;refine JR 16 ?_;(refine JT 17 ?_;(first|refine Jw ?_|(refine Jb ?_;intro b)|(refine Ja ?_;intro ao cap));refine JG ?_);(apply RunT.done;kernel_rfl);obtain⟨co2,rfl⟩:∃x,x=ao:=⟨_,rfl⟩;obtain⟨cc2,rfl⟩:∃x,x=cap:=⟨_,rfl⟩
  repeat(refine Jy ?_;try first|intro ao cap|intro b)
  apply Cod.draw 15 ([blk ab (alC none 0 0 bb 0) 76,blk bb [.slice co2 (q+1) cc2, .slice wo q wc] 97]) (by kernel_rfl) 16 rfl;refine JR 0 ?_;refine JR 1 ?_;refine JR 2 ?_;refine JR 3 ?_;refine JR 4 ?_;refine JR 5 ?_;refine JR 6 ?_;refine JR 7 ?_;refine JR 8 ?_;refine JR 9 ?_;refine JR 10 ?_;(refine JT 11 ?_;(first|refine Jw ?_|(refine Jb ?_;intro b)|(refine Ja ?_;intro ao cap));refine JG ?_);(refine JT 12 ?_;refine OpT.append1_ (a:=(⟨none,0,[]⟩:Rw)) (k:=?_);intro ao cap;refine JG ?_;(refine Jn ?_));refine JR 13 ?_;refine JR 14 ?_;(refine JT 15 ?_;(first|refine Jw ?_|(refine Jb ?_;intro b)|(refine Ja ?_;intro ao cap));refine JG ?_);(apply RunT.done;kernel_rfl)
  repeat(refine Jy ?_;try first|intro ao cap|intro b)
  rw[ht,hr];refine End.round0_ hK1 (q+1,co2,cc2,ao,cap) ?_ ?_
  ·dsimp only;omega
  ·dsimp only;omega
 ·obtain rfl:q=m.bx.length:=by omega
  clear hK1;rw[List.take_length]
  repeat(refine Jy ?_;try first|intro ao cap|intro b)
  (refine JQ (tasks9_is m (by omega)) ?_;intro s hs;(refine Jn ?_));obtain⟨ko,kc⟩:=s;dsimp only
  repeat(refine Jy ?_;try first|intro ao cap|intro b)
  apply Cod.imp (fun w hm=>Mem.nullsIn 2 m.bx.length (hm.nilArr 72 ptrC));refine Cod.only ((fun z=>[old w S,md m,blk mb (mdV m) 25,arr ko (Vm.tasks m.mdl).length kc 3 natC (Vm.tasks m.mdl),blk ab (alC z.2.1 z.1 z.2.2.1 bb 0) 76,blk bb [.slice co m.bx.length cc, .slice wo m.bx.length wc] 97,arr co m.bx.length cc 3 i64c (m.bx.map (·.2)),arr wo m.bx.length wc 63 rwC (nulls m.bx.length),bag ((nulls m.bx.length).map (rowM 2)),arr z.2.1 z.1 z.2.2.1 72 ptrC (z.2.2.2.map (·.tb)),rksM m z.2.2.2]) (0,none,0,[])) (tks) ?_;apply Cod.loop (σ:=Nat×Option Addr×Nat×List RkL) (fun z=>z.1≤(Vm.tasks m.mdl).length∧z.2.2.2.length=z.1∧z.2.2.2.map RkL.tk=((Vm.tasks m.mdl).take z.1).map (Vm.new m.mdl)∧∀t∈z.2.2.2,t.Wf∧t.log=[]) (fun z=>[(1,ptr mb),(3,ptr ab),(53, .slice ko (Vm.tasks m.mdl).length kc),(54, .int .i64 ((Vm.tasks m.mdl).length:Int)),(55, .int .i64 (z.1:Int))]) (fun z=>[old w S,md m,blk mb (mdV m) 25,arr ko (Vm.tasks m.mdl).length kc 3 natC (Vm.tasks m.mdl),blk ab (alC z.2.1 z.1 z.2.2.1 bb 0) 76,blk bb [.slice co m.bx.length cc, .slice wo m.bx.length wc] 97,arr co m.bx.length cc 3 i64c (m.bx.map (·.2)),arr wo m.bx.length wc 63 rwC (nulls m.bx.length),bag ((nulls m.bx.length).map (rowM 2)),arr z.2.1 z.1 z.2.2.1 72 ptrC (z.2.2.2.map (·.tb)),rksM m z.2.2.2]) (fun z=>(Vm.tasks m.mdl).length-z.1) (0,none,0,[])
  rotate_left
  exact sb;exact tks;intro z hz K1 hK1;(refine Jn ?_)
  rotate_left
  ·exact⟨Nat.zero_le _,rfl,rfl,by simp⟩
  obtain⟨q,to,tc,ts⟩:=z;obtain⟨y1,y2,y3,y4⟩:=hz;dsimp only at y1 y2 y3 y4 hK1⊢
  by_cases hq:q<(Vm.tasks m.mdl).length
  ·obtain⟨hu1,hu2⟩:=tasks_mem (m:=m) (k:=q) hq;have hgd:(Vm.tasks m.mdl).getD q default=(Vm.tasks m.mdl).getD q 0:=rfl;obtain⟨u,hu⟩:∃u,u=(Vm.tasks m.mdl).getD q 0:=⟨_,rfl⟩;rw[←hu]at hgd hu1 hu2;have hul:=hloc u hu1
   repeat(refine Jy ?_;try first|intro ao cap|intro b)
   rw[hgd];apply Cod.draw 12 ([blk ab (alC to q tc bb 0) 76,blk mb (mdV m) 25]) (by kernel_rfl) 13 rfl;refine JR 0 ?_;refine JR 1 ?_;refine JR 2 ?_;refine JR 3 ?_;refine JR 4 ?_;refine JR 5 ?_;refine JR 6 ?_;(refine JT 7 ?_;refine JK (new9_is (wxEnv m.mdl ⟨0,none,0,[],none,0⟩) ([]:List Rw) m u hu1 (by omega)) ?_;intro s hs;refine JG ?_;(refine Jn ?_));obtain⟨tb,ob,fb,fo,fc⟩:=s;dsimp only;(refine JT 8 ?_;(first|refine Jw ?_|(refine Jb ?_;intro b)|(refine Ja ?_;intro ao cap));refine JG ?_);(refine JT 9 ?_;refine OpT.append1_ (a:=tb) (k:=?_);intro ao cap;refine JG ?_;(refine Jn ?_));refine JR 10 ?_;refine JR 11 ?_;(refine JT 12 ?_;(first|refine Jw ?_|(refine Jb ?_;intro b)|(refine Ja ?_;intro ao cap));refine JG ?_);(apply RunT.done;kernel_rfl)
   repeat(refine Jy ?_;try first|intro ao cap|intro b)
   have w2:=rkborn_tk m tb ob u fb fo fc;have w1:=rkborn_wf tb ob u fb fo fc (Vm.begin m.mdl u []).ws;obtain⟨B,hB⟩:∃B:RkL,B=RkL.born tb ob u fb fo fc (Vm.begin m.mdl u []).ws:=⟨_,rfl⟩;apply End.imp (fun w hm=>Mem.rkAdd (t:=B) hm (tk) (by rw[hB];(repeat(first|exact Takes.nil|exact Take.head|apply Take.tail|apply Takes.cons))));have hmp:ts.map (·.tb) ++[tb]=(ts ++[B]).map (·.tb):=by rw[hB];simp
   rw[hmp];rw[←hB]at w1 w2;refine End.round0_ hK1 (q+1,ao,cap,ts ++[B]) ?_ ?_
   ·refine⟨by dsimp only;omega,by simp[y2],?_,fun t ht=>?_⟩
    ·dsimp only;rw[Jq,y3,Jp hq,Jq];congr 1;simp only[List.map_cons,List.map_nil];rw[w2,hu,Jd,Je hq];rfl
    ·rcases List.mem_append.1 ht with ht|ht
     ·exact y4 t ht
     ·simp at ht;subst ht;exact⟨w1,by rw[hB]⟩
   ·dsimp only;omega
  ·obtain rfl:q=(Vm.tasks m.mdl).length:=by omega
   repeat(refine Jy ?_;try first|intro ao cap|intro b)
   obtain⟨B,hB⟩:∃B:NwL,B=⟨ab,bb,co,cc,wo,wc,to,tc,ts⟩:=⟨_,rfl⟩;refine End.done1_ B (he:=by rw[hB]) (ht:=by(subst hB;simp only[NwL.mem,y2];exact tks)) (hp:=?_) (hx:=by simp[blk_excl,arr_excl,bag_excl,rksM_excl]);subst hB;exact⟨by rw[y3,List.take_of_length_le (Nat.le_refl _)],y4⟩
end Go.Proofs.YtjehflelkpacfaaGreat.Vw
