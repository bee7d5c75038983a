/- Settle, walked. -/
import Derived.Test.YtjehflelkpacfaaGreatM41
set_option linter.unusedVariables false
set_option linter.unusedSimpArgs false
set_option linter.unusedSectionVars false
set_option maxRecDepth 100000
namespace Go.Proofs.YtjehflelkpacfaaGreat.Vm
open ImgM
theorem nextOf_at:∀{l:List Nat} {last:Int} {j:Nat},j<l.length→last<((l.getD j default:Nat):Int)→(∀i,i<j→¬last<((l.getD i default:Nat):Int))→nextOf l last=l.getD j default
 |[],_,_,hj,_,_=>absurd hj (by simp)
 |a::l,last,0,_,h,_=>by
  unfold nextOf;rw[List.find?_cons_of_pos (by simpa using h)];rfl
 |a::l,last,j+1,hj,h,hb=>by
  have h1:=nextOf_at (l:=l) (last:=last) (j:=j) (by simpa using hj) (by simpa using h) (fun i hi=>by simpa using hb (i+1) (by omega));have h0:=hb 0 (by omega);have hf:∃x,l.find? (fun k:Nat=>decide (last<(k:Int)))=some x:=by
   rw[←Option.isSome_iff_exists,List.find?_isSome];refine⟨l.getD j default,?_,by simpa using h⟩;rw[Jd,Je (by simpa using hj)];exact List.getElem_mem _
  obtain⟨x,hx⟩:=hf;unfold nextOf at h1⊢;rw[List.find?_cons_of_neg (by simpa using h0),hx];rw[hx]at h1;simpa using h1
theorem nextOf_none{l:List Nat}{last:Int}(hb:∀i,i<l.length→¬last<((l.getD i default:Nat):Int)):nextOf l last=l.getD 0 default:=by
 unfold nextOf;rw[List.find?_eq_none.2 (fun x hx=>?_)]
 ·cases l<;>rfl
 ·obtain⟨i,hi,rfl⟩:=List.getElem_of_mem hx;have:=hb i hi;rw[Jd,Je hi]at this;simpa using this
theorem zip_snoc{α β:Type}{a:List α}{b:List β}(h:a.length=b.length)(x:α)(y:β):(a ++[x]).zip (b ++[y])=a.zip b ++[(x,y)]:=by
 rw[List.zip_append h];rfl
theorem lastOf_snoc{l:List (Int×Int)}{d:List (Int×Nat)}(h:l.length=d.length)(p:Int×Int)(x:Int×Nat):lastOf (l ++[p]) (d ++[x])=if x.1=0 then p.1 else lastOf l d:=by
 unfold lastOf;rw[zip_snoc h,List.filter_append,List.foldl_append]
 by_cases hx:x.1=0
 ·rw[if_pos hx];simp[hx]
 ·rw[if_neg hx];simp[hx]
theorem settle_succ(M:Mdl)(q:Int)(n:Nat)(last:Int)(c:Ma):settle M q (n+1) last c=if(c.looked M).ready=[]then some (c.looked M)else if(pick M false (c.looked M) ((nextOf (c.looked M).ready last:Int),q)).1.1≠0 then none else settle M q n (nextOf (c.looked M).ready last) (pick M false (c.looked M) ((nextOf (c.looked M).ready last:Int),q)).2:=rfl
theorem pick1_done{ν:Type}{V:Env ν}{M:Mdl}{n:Nat}{q:Int}{r:Tk×ν}(h:(pick1 V M n q r).1.1=0):1≤(pick1 V M n q r).1.2:=by
 unfold pick1 at h⊢
 by_cases h1:q<1∨10000<q
 ·rw[if_pos h1]at h;cases h
 ·rw[if_neg h1]at h⊢
  by_cases h2:(look V M r).1.st≠1
  ·rw[if_pos h2]at h;cases h
  ·rw[if_neg h2]at h⊢
   by_cases h3:(goN V M (min q.toNat (20000-n)) (look V M r)).1=0
   ·rw[if_pos h3]at h;cases h
   ·rw[if_neg h3];dsimp only;omega
theorem pick_done{M:Mdl}{told:Bool}{c:Ma}{p:Int×Int}(h:(pick M told c p).1.1=0):c.n+1≤(pick M told c p).2.n:=by
 unfold pick at h⊢
 by_cases h1:p.1<0∨(c.ts.length:Int)≤p.1
 ·rw[if_pos h1]at h;cases h
 ·rw[if_neg h1]at h⊢;have:=pick1_done h;dsimp only;omega
def settled(M:Mdl)(ps:List (Int×Int))(q:Int):Option Ma:=settle M q 20001 (lastOf ps (picks M false ps (Ma.init M)).1) (picks M false ps (Ma.init M)).2
def setErr(M:Mdl)(ps:List (Int×Int))(q:Int):Int:=if wrong M ps.length≠0 then wrong M ps.length else if q<1∨10000<q then 3 else if settled M ps q=none then 10 else 0
end Go.Proofs.YtjehflelkpacfaaGreat.Vm
namespace Go.Proofs.YtjehflelkpacfaaGreat.Vw
open Go.RowKit Go.Proofs.YtjehflelkpacfaaGreat.Img
attribute [local irreducible] Run Cod End OpT Still RunQ RunS RunT Fn PutOk
def SetIs(m:ML)(ps:List (Int×Int))(q:Int)(r:WoL):Prop:=if Vm.setErr m.mdl ps q=0 then∃c,Vm.settled m.mdl ps q=some c∧r.Is (c.looked m.mdl)else r=RunL.zero.w
def lastK(m:ML)(ps:List (Int×Int))(k:Nat):Int:=Vm.lastOf (ps.take k) (ckOf m ps k).1
theorem lastK_zero(m:ML)(ps:List (Int×Int)):lastK m ps 0= -1:=rfl
theorem lastK_succ(m:ML)(ps:List (Int×Int)){k:Nat}(hk:k<ps.length):lastK m ps (k+1)=if(Vm.pick m.mdl false (ckOf m ps k).2 (ps.getD k default)).1.1=0 then(ps.getD k default).1 else lastK m ps k:=by
 unfold lastK;rw[ckOf_succ m ps hk,Jp hk,Vm.lastOf_snoc (by unfold ckOf;rw[Vm.picks_len]),Jd,Je hk];rfl
attribute [local irreducible] Ver.verify Vm.wrong Vm.picks Vm.settle Vm.setErr Vm.settled lastK
theorem setErr_1{M:ImgM.Mdl}{ps:List (Int×Int)}{q W:Int}(h:W=Vm.wrong M ps.length)(h0:¬W=0):Vm.setErr M ps q=W:=by unfold Vm.setErr;rw[←h,if_pos h0]
theorem setErr_2{M:ImgM.Mdl}{ps:List (Int×Int)}{q:Int}(h:0=Vm.wrong M ps.length)(h0:q<1∨10000<q):Vm.setErr M ps q=3:=by unfold Vm.setErr;rw[←h,if_neg (fun h=>h rfl),if_pos h0]
theorem setErr_3{M:ImgM.Mdl}{ps:List (Int×Int)}{q:Int}(h:0=Vm.wrong M ps.length)(h0:¬(q<1∨10000<q)):Vm.setErr M ps q=if Vm.settled M ps q=none then 10 else 0:=by unfold Vm.setErr;rw[←h,if_neg (fun h=>h rfl),if_neg h0]
theorem settled_eq(m:ML)(ps:List (Int×Int))(q:Int):Vm.settled m.mdl ps q=Vm.settle m.mdl q 20001 (lastK m ps ps.length) (ckOf m ps ps.length).2:=by
 unfold Vm.settled lastK;rw[ckOf_all,List.take_length]
set_option maxHeartbeats 2000000 in
theorem settle_is(m:ML)(hwf:m.Wf)(ps:PkL)(Q:Int):Fn Tryz.prog 11 #[m.val,ps.val, .int .i64 Q] [md m,pkR ps] [] (σ:=WoL) (SetIs m ps.l Q) (fun r=> .tuple #[.agg r.cells.toArray, .int .i64 (Vm.setErr m.mdl ps.l Q)]) WoL.mem:=by
 refine Fn.enter (args:=[m.val,ps.val, .int .i64 Q]) Tryz.func11 rfl _ Tryz.ntmps11 rfl (by simp[md_excl,rd_excl]) (fun w S=>?_);(refine Jn ?_);obtain⟨W,hW⟩:∃W,W=Vm.wrong m.mdl ps.l.length:=⟨_,rfl⟩;obtain⟨X,hX⟩:∃X,X=Vm.setErr m.mdl ps.l Q:=⟨_,rfl⟩;unfold SetIs;rw[←hX]
 repeat(refine Jy ?_;try first|intro ao cap|intro b)
 obtain⟨rb,rfl⟩:∃x,x=b:=⟨_,rfl⟩;(refine JQ (wrong_is m hwf ps.l.length) ?_;intro s hs;(refine Jn ?_));rw[←hW]
 by_cases h0:¬W=0
 ·have hX':X=W:=by rw[hX];exact setErr_1 hW h0
  subst hX'
  repeat(refine Jy ?_;try first|intro ao cap|intro b)
  apply End.imp (fun w hm=>(((hm.bagNil).bagNil).nilArr 102 enC).nilArr 63 rwC);(refine End.doneC2_ (RunL.zero.w) (he:=Jv) (hp:=?_));rw[if_neg h0]
 have h0:=Classical.not_not.1 h0;subst h0
 by_cases hq1:Q<1
 ·have hX':X=3:=by rw[hX];exact setErr_2 hW (.inl hq1)
  subst hX'
  repeat(refine Jy ?_;try first|intro ao cap|intro b)
  apply End.imp (fun w hm=>(((hm.bagNil).bagNil).nilArr 102 enC).nilArr 63 rwC);(refine End.doneC2_ (RunL.zero.w) (he:=Jv) (hp:=?_));rw[if_neg (by decide)]
 by_cases hq2:10000<Q
 ·have hX':X=3:=by rw[hX];exact setErr_2 hW (.inr hq2)
  subst hX'
  repeat(refine Jy ?_;try first|intro ao cap|intro b)
  apply End.imp (fun w hm=>(((hm.bagNil).bagNil).nilArr 102 enC).nilArr 63 rwC);(refine End.doneC2_ (RunL.zero.w) (he:=Jv) (hp:=?_));rw[if_neg (by decide)]
 have hX':=hX.trans (setErr_3 hW (by omega));clear hX;obtain⟨hv,hp4⟩:=wrong_zero hW.symm;have hF:=formed (Ver.verify_iff.1 hv).form;have hu30:=hF.units;have hb30:=hF.boxes;obtain⟨T,hC⟩:=certs_ml hwf hv
 repeat(refine Jy ?_;try first|intro ao cap|intro b)
 obtain⟨mb,rfl⟩:∃x,x=b:=⟨_,rfl⟩;(refine JQ (begin2_is mb m hb30 hu30 (caps_ok hv) (fun k hk=>(head_ok (hF.head k hk)).1)) ?_;intro s hs;(refine Jn ?_));obtain⟨e1,e2⟩:=beg_is hC hs mb;have hn:=beg_len hs hu30;have hk0:=ckOf_zero m ps.l;obtain⟨n0,hn0'⟩:∃n,n=(ckOf m ps.l 0).2.n:=⟨_,rfl⟩;have hn0:n0=0:=by rw[hn0',hk0];rfl
 apply Run.imp' (fun w hm=>beg_ma s hn0 (tks) hm);(refine Jn ?_);obtain⟨x,hx⟩:∃x,x=s.pl mb:=⟨_,rfl⟩;obtain⟨ts0,ht0⟩:∃x,x=s.ts:=⟨_,rfl⟩;obtain⟨e0,he0⟩:∃x,x=s.be:=⟨_,rfl⟩;have hxb:s.xb=x.xb:=by rw[hx];rfl
 rw[←hx]at e1;rw[←ht0,←he0]at e1 e2;rw[←ht0]at hn;rw[hxb,←hx,←ht0,←he0];clear hx ht0 he0 hxb hs s;subst hn0'
 repeat(refine Jy ?_;try first|intro ao cap|intro b)
 rw[←lastK_zero m ps.l];refine Cod.only ((fun z=>[old w S,md m,bxR x.p,pkR ps,blk rb [.slice none 0 0, .slice none 0 0, .int .i64 0] 36] ++maM m x z.2.1 z.2.2 (ckOf m ps.l z.1).2.n) (0,ts0,e0)) (tks) ?_;apply Cod.loop (σ:=Nat×List TkL×BxE) (fun z=>z.1≤ps.l.length∧z.2.1.length≤30∧MaIs m T x z.2.1 z.2.2 (ckOf m ps.l z.1).2.n∧maA z.2.1 z.2.2 (ckOf m ps.l z.1).2.n=(ckOf m ps.l z.1).2) (fun z=>[(2, .int .i64 Q),(6,ptr rb),(9,ptr x.xb),(10, .int .i64 (lastK m ps.l z.1)),(33, .slice ps.o ps.l.length ps.c),(34, .int .i64 (ps.l.length:Int)),(35, .int .i64 (z.1:Int))]) (fun z=>[old w S,md m,bxR x.p,pkR ps,blk rb [.slice none 0 0, .slice none 0 0, .int .i64 0] 36] ++maM m x z.2.1 z.2.2 (ckOf m ps.l z.1).2.n) (fun z=>ps.l.length-z.1) (0,ts0,e0)
 rotate_left
 exact sb;exact tks;intro z hz K1 hK1;(refine Jn ?_)
 rotate_left
 ·exact⟨Nat.zero_le _,hn,by rw[hn0];exact e1,by rw[hn0,e2,hk0]⟩
 obtain⟨q,us,e⟩:=z;obtain⟨hq0,hun,hI,hA⟩:=hz;dsimp only at hq0 hun hI hA hK1⊢
 by_cases hq:q<ps.l.length
 ·obtain⟨tq,q1,htq⟩:∃tq q1,ps.l.getD q default=(tq,q1):=⟨_,_,rfl⟩;have hsn:=ckOf_succ m ps.l hq;have hln:=lastK_succ m ps.l hq
  repeat(refine Jy ?_;try first|intro ao cap|intro b)
  rw[htq];rw[htq]at hsn hln;obtain⟨C1,hC1⟩:∃C,C=ckOf m ps.l (q+1):=⟨_,rfl⟩;rw[←hC1]at hsn;generalize ckOf m ps.l q=C at *;rw[←hA]at hsn hln;have hsp:=pickA_is m hC x us e C.2.n hI hun tq q1;generalize Vm.pick m.mdl false (maA us e C.2.n) (tq,q1)=R at *;(refine Jc ?_;refine OpT.call0_ (spec:=hsp) (r:=(fun w=>Reads.md (tk) (Reads.any (tk) (bxR_excl x.p) .nil))) (k:=?_);intro s hs;(refine Jn ?_));obtain⟨us',e'⟩:=s;obtain⟨g1,g2,g3⟩:=hs;dsimp only at g1 g2 g3 hln⊢;have a2:R.2.n=(ckOf m ps.l (q+1)).2.n:=by rw[←hC1,hsn]
  rw[a2]at g1 g3⊢
  repeat(refine Jy ?_;try first|intro ao cap|intro b)
  (apply Run.op;exact rfl;refine OpT.val_ (h:=by exact Still.fieldI rfl rfl rfl rfl rfl) (k:=?_))
  by_cases hr0:R.1.1=0
  ·rw[if_pos hr0]at hln
   repeat(refine Jy ?_;try first|intro ao cap|intro b)
   rw[←hln];refine End.round0_ hK1 (q+1,us',e') ?_ ?_
   ·exact⟨by dsimp only;omega,by dsimp only;omega,g1,by dsimp only;rw[g3,←hC1,hsn]⟩
   ·dsimp only;omega
  ·rw[if_neg hr0]at hln
   repeat(refine Jy ?_;try first|intro ao cap|intro b)
   rw[←hln];refine End.round0_ hK1 (q+1,us',e') ?_ ?_
   ·exact⟨by dsimp only;omega,by dsimp only;omega,g1,by dsimp only;rw[g3,←hC1,hsn]⟩
   ·dsimp only;omega
 ·obtain rfl:q=ps.l.length:=by omega
  clear hK1;have hse:=settled_eq m ps.l Q
  repeat(refine Jy ?_;try first|intro ao cap|intro b)
  generalize lastK m ps.l ps.l.length=la0 at *;generalize(ckOf m ps.l ps.l.length).2=C at *;(refine Jc ?_;refine OpT.call0_ (spec:=ready_is m hC x us e C.n hI hun) (r:=(fun w=>Reads.md (tk) (Reads.any (tk) (bxR_excl x.p) .nil))) (k:=?_);intro s hs;(refine Jn ?_));obtain⟨us0,lo,lc⟩:=s;obtain⟨g1,g2⟩:=hs;dsimp only at g1 g2⊢;rw[hA]at g2;rw[hA,←g2]
  repeat(refine Jy ?_;try first|intro ao cap|intro b)
  refine Cod.only ((fun z=>[old w S,md m,bxR x.p,blk rb [.slice none 0 0, .slice none 0 0, .int .i64 0] 36,arr z.2.2.2.2.2.1 (maA z.2.2.1 z.2.2.2.1 z.2.2.2.2.1).ready.length z.2.2.2.2.2.2 3 natC (maA z.2.2.1 z.2.2.2.1 z.2.2.2.2.1).ready] ++maM m x z.2.2.1 z.2.2.2.1 z.2.2.2.2.1) (20001,la0,us0,e,C.n,lo,lc)) (tks) ?_;apply Cod.loop (σ:=Nat×Int×List TkL×BxE×Nat×Option Addr×Nat) (fun z=>z.2.2.1.length≤30∧MaIs m T x z.2.2.1 z.2.2.2.1 z.2.2.2.2.1∧20001≤z.1+z.2.2.2.2.1∧∃c,maA z.2.2.1 z.2.2.2.1 z.2.2.2.2.1=c.looked m.mdl∧Vm.settled m.mdl ps.l Q=Vm.settle m.mdl Q z.1 z.2.1 c) (fun z=>[(2, .int .i64 Q),(6,ptr rb),(9,ptr x.xb),(10, .int .i64 z.2.1),(13, .slice z.2.2.2.2.2.1 (maA z.2.2.1 z.2.2.2.1 z.2.2.2.2.1).ready.length z.2.2.2.2.2.2)]) (fun z=>[old w S,md m,bxR x.p,blk rb [.slice none 0 0, .slice none 0 0, .int .i64 0] 36,arr z.2.2.2.2.2.1 (maA z.2.2.1 z.2.2.2.1 z.2.2.2.2.1).ready.length z.2.2.2.2.2.2 3 natC (maA z.2.2.1 z.2.2.2.1 z.2.2.2.2.1).ready] ++maM m x z.2.2.1 z.2.2.2.1 z.2.2.2.2.1) (fun z=>z.1) (20001,la0,us0,e,C.n,lo,lc)
  rotate_left
  exact sb;exact tks;intro z hz K1 hK1;(refine Jn ?_)
  rotate_left
  ·refine⟨?_,g1,by dsimp only;omega,C,g2,hse⟩;have h1:=congrArg List.length g1.tbs;have h2:=congrArg List.length hI.tbs;simp only[Jf]at h1 h2;dsimp only;omega
  obtain⟨fu,la,ts,e1,n,ao,ac⟩:=z;obtain⟨hun1,hI1,hfu,c,hA1,hst⟩:=hz;dsimp only at hun1 hI1 hfu hA1 hst hK1⊢;have hn20:n≤20000:=hI1.ok.n;obtain⟨f,rfl⟩:∃f,fu=f+1:=⟨fu-1,by omega⟩;rw[Vm.settle_succ,←hA1]at hst;obtain⟨l,hl⟩:∃l,l=(maA ts e1 n).ready:=⟨_,rfl⟩;rw[←hl]at hst⊢;have hl30:l.length≤30:=by
   have h1:=List.length_filter_le (fun k=>decide (((maA ts e1 n).ts.getD k default).st=1)) (List.range (maA ts e1 n).ts.length);have h2:l.length≤(ts.map TkL.tk).length:=by rw[hl];rw[List.length_range]at h1;exact h1
   rw[Jf]at h2;omega
  by_cases h9:l=[]
  ·rw[if_pos h9]at hst;have hl0:l.length=0:=by rw[h9];rfl
   have hX0:X=0:=by rw[hX',hst];rfl
   subst hX0;clear hK1
   repeat(refine Jy ?_;try first|intro ao cap|intro b)
   (refine Jc ?_;refine OpT.call0_ (spec:=world_is m hC x ts e1 n hI1 hun1 hb30) (r:=(fun w=>Reads.md (tk) (Reads.any (tk) (bxR_excl x.p) .nil))) (k:=?_);intro s hs;(refine Jn ?_));obtain⟨us',r⟩:=s;obtain⟨k1,k2,k3⟩:=hs;dsimp only at k1 k2 k3⊢
   repeat(refine Jy ?_;try first|intro ao cap|intro b)
   (refine End.doneC2_ (r) (he:=Jv) (hp:=?_));rw[if_pos rfl];exact⟨_,hst,k3⟩
  ·rw[if_neg h9]at hst;have hl0:0<l.length:=JP.2 h9
   repeat(refine Jy ?_;try first|intro ao cap|intro b)
   refine cutN (σ:=Unit) (fun _=>True) (fun _=>[(2, .int .i64 Q),(6,ptr rb),(9,ptr x.xb),(14, .int .i64 ((Vm.nextOf l la:Nat):Int))]) (fun z=>[old w S,md m,bxR x.p,blk rb [.slice none 0 0, .slice none 0 0, .int .i64 0] 36] ++maM m x ts e1 n) ?_ ?_
   ·rintro⟨⟩ -;clear hl h9 hl0;obtain⟨nx,hnx⟩:∃x,x=Vm.nextOf l la:=⟨_,rfl⟩;rw[←hnx]at hst⊢;have hsp:=pickA_is m hC x ts e1 n hI1 hun1 (nx:Int) Q;have hdn:=Vm.pick_done (M:=m.mdl) (told:=false) (c:=maA ts e1 n) (p:=((nx:Int),Q));generalize Vm.pick m.mdl false (maA ts e1 n) ((nx:Int),Q)=R at *
    repeat(refine Jy ?_;try first|intro ao cap|intro b)
    (refine Jc ?_;refine OpT.call0_ (spec:=hsp) (r:=(fun w=>Reads.md (tk) (Reads.any (tk) (bxR_excl x.p) .nil))) (k:=?_);intro s hs;(refine Jn ?_));obtain⟨us',e'⟩:=s;obtain⟨k1,k2,k3⟩:=hs;dsimp only at k1 k2 k3 hdn⊢
    repeat(refine Jy ?_;try first|intro ao cap|intro b)
    (apply Run.op;exact rfl;refine OpT.val_ (h:=by exact Still.fieldI rfl rfl rfl rfl rfl) (k:=?_))
    by_cases hr0:¬R.1.1=0
    ·rw[if_pos hr0]at hst;have hX0:X=10:=by rw[hX',hst];rfl
     subst hX0
     repeat(refine Jy ?_;try first|intro ao cap|intro b)
     apply End.imp (fun w hm=>(((hm.bagNil).bagNil).nilArr 102 enC).nilArr 63 rwC);(refine End.doneC2_ (RunL.zero.w) (he:=Jv) (hp:=?_));rw[if_neg (by decide)]
    ·have hr0:=Classical.not_not.1 hr0;rw[if_neg (fun h=>h hr0)]at hst;have hd1:=hdn hr0;have hun':us'.length≤30:=by omega
     repeat(refine Jy ?_;try first|intro ao cap|intro b)
     (refine Jc ?_;refine OpT.call0_ (spec:=ready_is m hC x us' e' R.2.n k1 hun') (r:=(fun w=>Reads.md (tk) (Reads.any (tk) (bxR_excl x.p) .nil))) (k:=?_);intro s hs;(refine Jn ?_));obtain⟨us2,lo2,lc2⟩:=s;obtain⟨j1,j2⟩:=hs;dsimp only at j1 j2⊢;rw[k3]at j2;rw[k3,←j2]
     repeat(refine Jy ?_;try first|intro ao cap|intro b)
     refine End.round0_ hK1 (f,(nx:Int),us2,e',R.2.n,lo2,lc2) ?_ ?_
     ·refine⟨?_,j1,by dsimp only;omega,R.2,j2,hst⟩;have h1:=congrArg List.length j1.tbs;have h2:=congrArg List.length k1.tbs;simp only[Jf]at h1 h2;dsimp only;omega
     ·dsimp only;omega
   ·intro K3 hK3;clear hK1;refine Cod.only ((fun j=>[old w S,md m,bxR x.p,blk rb [.slice none 0 0, .slice none 0 0, .int .i64 0] 36,arr ao l.length ac 3 natC l] ++maM m x ts e1 n) 0) (tks) ?_;apply Cod.loop (σ:=Nat) (fun j=>j≤l.length∧∀i,i<j→¬la<((l.getD i default:Nat):Int)) (fun j=>[(2, .int .i64 Q),(6,ptr rb),(9,ptr x.xb),(10, .int .i64 la),(14, .int .i64 ((l.getD 0 default:Nat):Int)),(57, .slice ao l.length ac),(58, .int .i64 (l.length:Int)),(59, .int .i64 (j:Int))]) (fun j=>[old w S,md m,bxR x.p,blk rb [.slice none 0 0, .slice none 0 0, .int .i64 0] 36,arr ao l.length ac 3 natC l] ++maM m x ts e1 n) (fun j=>l.length-j) 0
    rotate_left
    exact sb;exact tks;intro j hj K4 hK4;(refine Jn ?_)
    rotate_left
    ·exact⟨Nat.zero_le _,fun i hi=>by omega⟩
    obtain⟨hj0,hj1⟩:=hj
    by_cases hj:j<l.length
    ·by_cases hgt:la<((l.getD j default:Nat):Int)
     ·have hnx:=Vm.nextOf_at hj hgt hj1
      repeat(refine Jy ?_;try first|intro ao cap|intro b)
      rw[←hnx];refine End.some_ hK3 () ?_;trivial
     ·repeat(refine Jy ?_;try first|intro ao cap|intro b)
      refine End.round0_ hK4 (j+1) ?_ ?_
      ·refine⟨by omega,fun i hi=>?_⟩
       by_cases e:i=j
       ·subst e;exact hgt
       ·exact hj1 i (by omega)
      ·omega
    ·obtain rfl:j=l.length:=by omega
     have hnx:=Vm.nextOf_none hj1
     repeat(refine Jy ?_;try first|intro ao cap|intro b)
     rw[←hnx];refine End.some_ hK3 () ?_;trivial
end Go.Proofs.YtjehflelkpacfaaGreat.Vw
namespace Go.Proofs.YtjehflelkpacfaaGreat.Vm
open ImgM Ver Opt
section
variable{M:Mdl}{T:Nat→Int→Option Shape}{c:Ma}{xs:Nat→List Int}
def seen(M:Mdl)(c:Ma)(k:Nat):Ma:=⟨c.ts.set k (look (bxs M none) M (c.ts.getD k default,c.bs)).1,c.bs,c.n⟩
theorem seen_looked(k:Nat):(seen M c k).looked M=c.looked M:=by
 unfold seen Ma.looked;simp only[Ma.mk.injEq,and_true];refine List.ext_getElem (by simp) fun j h1 h2=>?_
 simp only[Jf,Ji]at h1 h2;simp only[List.getElem_map,List.getElem_set]
 split
 ·rename_i e
  subst e;rw[Jd,Je h2,JZ];have e1:look (bxs M none) M (c.ts[k],c.bs)=((look (bxs M none) M (c.ts[k],c.bs)).1,c.bs):=Prod.ext rfl (look_snd _ M _);rw[←e1,look_look]
 ·rfl
theorem Stood.see(h:Stood M false c xs){k:Nat}(hk:k<c.ts.length):Stood M false (Vm.seen M c k) xs:=by
 have h0:Stood M false ⟨c.ts.set k (c.ts.getD k default),c.bs,c.n⟩ xs:=by rw[set_getD hk];exact h
 exact h0.seen hk (nrm_look (M:=M) (bxs M none) (c.ts.getD k default,c.bs))
theorem Ma.Ok.see(h:c.Ok M T){k:Nat}(hk:k<c.ts.length):(Vm.seen M c k).Ok M T:=by
 have e:look (bxs M none) M (c.ts.getD k default,c.bs)=((look (bxs M none) M (c.ts.getD k default,c.bs)).1,c.bs):=Prod.ext rfl (look_snd _ M _);refine⟨fun t ht=>?_,fun t ht=>?_,h.log,h.n⟩
 ·rcases List.mem_or_eq_of_mem_set ht with ht|rfl
  ·exact h.good t ht
  ·have:=look_good (V:=bxs M none) (h.good _ (h.at_ hk));rw[e]at this;exact this
 ·rcases List.mem_or_eq_of_mem_set ht with ht|rfl
  ·exact h.out t ht
  ·rw[(look_out _ M _).1];exact h.out _ (h.at_ hk)
def kOf(N:Nat)(last:Int)(i:Nat):Nat:=(last+(i:Int)+(N:Int)).toNat % N
theorem kOf_lt{N:Nat}(h:0<N)(last:Int)(i:Nat):kOf N last i<N:=Nat.mod_lt _ h
theorem kOf_all{N:Nat}{last:Int}(h1: -1≤last)(h2:last<(N:Int)){k:Nat}(hk:k<N):∃i,1≤i∧i≤N∧kOf N last i=k:=by
 unfold kOf
 by_cases h:last<(k:Int)
 ·refine⟨((k:Int)-last).toNat,by omega,by omega,?_⟩;have e:(last+((((k:Int)-last).toNat:Nat):Int)+(N:Int)).toNat=k+N:=by omega
  rw[e,Nat.add_mod_right,Nat.mod_eq_of_lt hk]
 ·refine⟨((k:Int)-last+(N:Int)).toNat,by omega,by omega,?_⟩;have e:(last+((((k:Int)-last+(N:Int)).toNat:Nat):Int)+(N:Int)).toNat=k+N+N:=by omega
  rw[e,Nat.add_mod_right,Nat.add_mod_right,Nat.mod_eq_of_lt hk]
theorem none_ready{last:Int}(h1: -1≤last)(h2:last<(c.ts.length:Int))(h:∀i,1≤i→i≤c.ts.length→¬((c.looked M).ts.getD (kOf c.ts.length last i) default).st=1):(c.looked M).ready=[]:=by
 unfold Ma.ready;rw[List.filter_eq_nil_iff];intro k hk;rw[List.mem_range]at hk;have hk':k<c.ts.length:=by simpa[Ma.looked]using hk
 obtain⟨i,i1,i2,rfl⟩:=kOf_all h1 h2 hk';simpa using h i i1 i2
theorem rest_set(hO:c.Ok M T)(hS:Stood M false c xs)(hr:(c.looked M).ready=[]):SetAt M (some c):=⟨xs,hS,hS.rest hr,hO.n⟩
theorem pick_more(hO:c.Ok M T)(hS:Stood M false c xs){q:Int}(h1:1≤q)(h2:q≤10000){k:Nat}(hk:k<c.ts.length)(hst:((c.looked M).ts.getD k default).st=1)(he:(pick M false c ((k:Int),q)).1.1≠0):SetAt M none:=by
 have hl:(look (bxs M (tOf false k)) M (c.at_ k)).1.st=1:=by
  have e0:tOf false k=none:=rfl;unfold Ma.at_;rw[e0,←looked_at hk];exact hst
 have hpk:(pick M false c ((k:Int),q)).1.1=(pick1 (bxs M (tOf false k)) M c.n q (c.at_ k)).1.1:=by
  unfold pick;rw[if_neg (by dsimp only;omega)];rfl
 have hn:c.n=20000:=Classical.byContradiction fun hn=>he (by
  rw[hpk];exact pick1_can h1 h2 (by have:=hO.n;omega) hl)
 have hkT:k<(tks0 M).length:=by rw[←hS.len];exact hk
 obtain⟨hc, -⟩:=step_loc hl;rw[hS.tk k hkT]at hc;have:=Runs.step hS.runs hkT hc;rw[show c.n+1=20001 by omega]at this;exact⟨_,_,this⟩
end
end Go.Proofs.YtjehflelkpacfaaGreat.Vm
namespace Go.Proofs.YtjehflelkpacfaaGreat.Vw
open Go.RowKit Go.Proofs.YtjehflelkpacfaaGreat.Img
section
attribute [local irreducible] Run Cod End OpT Still RunQ RunS RunT Fn PutOk
attribute [local irreducible] Ver.verify Vm.wrong Vm.picks Vm.settle
def SetR(m:ML)(ps:List (Int×Int))(q:Int)(s:WoL×Int):Prop:=
 if Vm.wrong m.mdl ps.length≠0 then s=(RunL.zero.w,Vm.wrong m.mdl ps.length)
 else if q<1∨10000<q then s=(RunL.zero.w,3)
 else(s=(RunL.zero.w,10)∧Vm.SetAt m.mdl none)∨(s.2=0∧∃c,Vm.SetAt m.mdl (some c)∧s.1.Is (c.looked m.mdl))
theorem SetR.bad{m:ML}{ps:List (Int×Int)}{q W:Int}(hW:W=Vm.wrong m.mdl ps.length)(h:¬W=0):SetR m ps q (RunL.zero.w,W):=by
 unfold SetR;rw[←hW,if_pos h]
theorem SetR.range{m:ML}{ps:List (Int×Int)}{q:Int}(hW:0=Vm.wrong m.mdl ps.length)(h:q<1∨10000<q):SetR m ps q (RunL.zero.w,3):=by
 unfold SetR;rw[←hW,if_neg (fun h=>h rfl),if_pos h]
theorem SetR.ten{m:ML}{ps:List (Int×Int)}{q:Int}(hW:0=Vm.wrong m.mdl ps.length)(h:¬(q<1∨10000<q))(hs:Vm.SetAt m.mdl none):SetR m ps q (RunL.zero.w,10):=by
 unfold SetR;rw[←hW,if_neg (fun h=>h rfl),if_neg h];exact .inl ⟨rfl,hs⟩
theorem SetR.ok{m:ML}{ps:List (Int×Int)}{q:Int}(hW:0=Vm.wrong m.mdl ps.length)(h:¬(q<1∨10000<q)){c:Vm.Ma}(hs:Vm.SetAt m.mdl (some c)){r:WoL}(hr:r.Is (c.looked m.mdl)):SetR m ps q (r,0):=by
 unfold SetR;rw[←hW,if_neg (fun h=>h rfl),if_neg h];exact .inr ⟨rfl,c,hs,hr⟩
attribute [local irreducible] SetR
theorem can10_is(m:ML){T:Nat→Int→Option Ver.Shape}(hC:Vm.Certs m.mdl T)(x:AlP)(ts:List RkL)(e:List Rw)(n:Nat)(h:AlIs m T x ts e n)(k:Nat)(hk:k<ts.length):
  Fn Tryz.prog 25 #[ptr x.ab, .int .i64 (k:Int)] [md m,wxR x.p] (alM m x ts e n) (σ:=List RkL) (fun us=>us.length=ts.length∧AlIs m T x us e n∧alA us e n=Vm.seen m.mdl (alA ts e n) k) (fun _=> .bool (decide ((((alA ts e n).looked m.mdl).ts.getD k default).st=1))) (fun us=>alM m x us e n):=by
 have hel:∀(us:List RkL) (e':List Rw) (n':Nat),∀c∈alM m x us e' n',c.excl=true:=fun us e' n'=>by simp[blk_excl,arr_excl,wxM_excl,rksM_excl]
 obtain⟨t,ht⟩:∃t,t=ts.getD k default:=⟨_,rfl⟩;have htm:t∈ts:=by rw[ht];exact rk_mem hk
 have hz:=(h.wf t htm).rt (E:=wxEnv m.mdl x.p) h.bx;have hg:Vm.Good m.mdl T (KW m.mdl x.p) (t.rt (wxEnv m.mdl x.p) e).two:=h.ok.good _ (List.mem_map.2 ⟨t,htm,rfl⟩);have hCq:=al_looked (m:=m) (x:=x) (e:=e) (n:=n) hk (by rw[←ht];exact hz);rw[←ht]at hCq;have htb:x.tbs.length=ts.length:=by rw[←h.tbs,Jf]
 have hsp:=can_is m x.p x.ab x.to x.tc x.tbs n k t.tb (by omega) (by rw[rk_tbs h.tbs hk,←ht]) (t.rt (wxEnv m.mdl x.p) e) hz (stand_good hC hg);obtain⟨y,hy⟩:∃y,y=(t.rt (wxEnv m.mdl x.p) e).look m:=⟨_,rfl⟩;have hye:y.e=e:=by rw[hy];exact look_e _ m
 have hyl:y.log=t.log:=by rw[hy];exact look_log _ m
 have hyw:y.Wf:=by rw[hy];exact hz.look m
 rw[←hy]at hsp hCq;rw[hCq];have hA:alA (ts.set k (y.lay t.tb)) e n=Vm.seen m.mdl (alA ts e n) k:=by
  have h2:(y.lay t.tb).tk=(Vm.look (Vm.bxs m.mdl none) m.mdl ((alA ts e n).ts.getD k default,(alA ts e n).bs)).1:=by
   rw[←hCq,Vm.looked_at (by show k<(ts.map RkL.tk).length;rw[Jf];exact hk)]
  unfold Vm.seen;simp only[alA,rk_set_tk,h2]
 have hkA:k<(alA ts e n).ts.length:=by show k<(ts.map RkL.tk).length;rw[Jf];exact hk
 refine Fn.conv (F:=[rksM m (ts.eraseIdx k)]) (by simp[md_excl,rd_excl]) hsp ?_ ?_
 ·intro w G hm;have h2:=Mem.rkOut (k:=k) hm (show Take (rksM m ts) _ _ from .tail (.tail (.tail .head))) hk;rw[←ht]at h2;exact h2.takes (tks)
 ·intro w G _ _ hm;refine⟨ts.set k (y.lay t.tb),⟨by simp,⟨tbs_set h.tbs hk (by rw[←ht]),fun z hz'=>?_,h.bx,by rw[hA];exact h.ok.see hkA,fun z hz'=>?_⟩,hA⟩,rfl,hel _ _ _,?_⟩
  ·rcases List.mem_or_eq_of_mem_set hz' with hz'|rfl
   ·exact h.wf z hz'
   ·exact hyw.lay _
  ·rcases List.mem_or_eq_of_mem_set hz' with hz'|rfl
   ·exact h.log z hz'
   ·show y.log.length≤_;rw[hyl];exact h.log t htm
  ·have h3:=Mem.rkIn (t:=y.lay t.tb) hm (show Take (rksM m (ts.eraseIdx k)) _ _ from tk) (by rw[hye];(repeat(first|exact Takes.nil|exact Take.head|apply Take.tail|apply Takes.cons))) hk;exact h3.takes (tks)
theorem kOf_is{N:Nat}{la:Int}(h1: -1≤la){i:Nat}(hi:1≤i):(la+(i:Int)+(N:Int)).tmod (N:Int)=((Vm.kOf N la i:Nat):Int):=by
 unfold Vm.kOf;have e:la+(i:Int)+(N:Int)=(((la+(i:Int)+(N:Int)).toNat:Nat):Int):=(Jo' (by omega)).symm
 conv=>lhs;rw[e]
 rw[Int.ofNat_tmod]
set_option maxHeartbeats 4000000 in
theorem settle10_is(m:ML)(hwf:m.Wf)(ps:PkL)(Q:Int):Fn Tryz.prog 12 #[m.val,ps.val, .int .i64 Q] [md m,pkR ps] [] (σ:=WoL×Int) (SetR m ps.l Q) (fun r=> .tuple #[.agg r.1.cells.toArray, .int .i64 r.2]) (fun r=>r.1.mem):=by
 refine Fn.enter (args:=[m.val,ps.val, .int .i64 Q]) Tryz.func12 rfl _ Tryz.ntmps12 rfl (by simp[md_excl,rd_excl]) (fun w S=>?_);(refine Jn ?_);obtain⟨W,hW⟩:∃W,W=Vm.wrong m.mdl ps.l.length:=⟨_,rfl⟩
 repeat(refine Jy ?_;try first|intro ao cap|intro b)
 obtain⟨rb,rfl⟩:∃x,x=b:=⟨_,rfl⟩;(refine JQ (wrong10_is m hwf ps) ?_;intro s hs;(refine Jn ?_));rw[←hW]
 by_cases h0:¬W=0
 ·have hbad:=SetR.bad (m:=m) (q:=Q) hW h0
  repeat(refine Jy ?_;try first|intro ao cap|intro b)
  apply End.imp (fun w hm=>(((hm.bagNil).bagNil).nilArr 102 enC).nilArr 63 rwC);(refine End.doneC2_ ((RunL.zero.w,W)) (he:=Jv) (hp:=?_));exact hbad
 have h0:=Classical.not_not.1 h0;subst h0;have hrng:=SetR.range (m:=m) (q:=Q) hW;have hten:=SetR.ten (m:=m) (q:=Q) hW;have hok:= @SetR.ok m ps.l Q hW
 by_cases hq1:Q<1
 ·repeat(refine Jy ?_;try first|intro ao cap|intro b)
  apply End.imp (fun w hm=>(((hm.bagNil).bagNil).nilArr 102 enC).nilArr 63 rwC);(refine End.doneC2_ ((RunL.zero.w,3)) (he:=Jv) (hp:=?_));exact hrng (.inl hq1)
 by_cases hq2:10000<Q
 ·repeat(refine Jy ?_;try first|intro ao cap|intro b)
  apply End.imp (fun w hm=>(((hm.bagNil).bagNil).nilArr 102 enC).nilArr 63 rwC);(refine End.doneC2_ ((RunL.zero.w,3)) (he:=Jv) (hp:=?_));exact hrng (.inr hq2)
 have hten:=hten (by omega);have hok:= @hok (by omega);clear hrng;obtain⟨hv,hp4⟩:=wrong_zero hW.symm;have hF:=formed (Ver.verify_iff.1 hv).form;have hu30:=hF.units;have hb30:=hF.boxes;obtain⟨T,hC⟩:=certs_ml hwf hv
 repeat(refine Jy ?_;try first|intro ao cap|intro b)
 (refine JQ (new10_is m hb30 hu30 (fun k hk=>(head_ok (hF.head k hk)).1)) ?_;intro s hs;(refine Jn ?_));obtain⟨e1,e2⟩:=nw_is hC hv hs;have hn:=nw_len hs hu30;obtain⟨n0,hn0⟩:∃n,n=0:=⟨_,rfl⟩;apply Run.imp' (fun w hm=>nw_ma s hn0 (tks) hm);(refine Jn ?_);obtain⟨x,hx⟩:∃x,x=s.pl m:=⟨_,rfl⟩;obtain⟨ts0,ht0⟩:∃x,x=s.ts:=⟨_,rfl⟩;obtain⟨e0,he0⟩:∃x,x=nulls m.bx.length:=⟨_,rfl⟩;have hxb:s.ab=x.ab:=by rw[hx];rfl
 rw[←hx]at e1;rw[←ht0,←he0]at e1 e2;rw[←ht0]at hn;rw[hxb,←hx,←ht0,←he0];clear hx ht0 he0 hxb hs s;subst hn0;have hst0:∃xs,Vm.Stood m.mdl false (alA ts0 e0 0) xs:=⟨_,by rw[e2];exact Vm.Stood.init m.mdl false⟩;clear e2
 repeat(refine Jy ?_;try first|intro ao cap|intro b)
 refine Cod.only ((fun z=>[old w S,md m,wxR x.p,pkR ps,blk rb [.slice none 0 0, .slice none 0 0, .int .i64 0] 36] ++alM m x z.2.1 z.2.2.1 z.2.2.2.1) (0,ts0,e0,0, -1)) (tks) ?_;apply Cod.loop (σ:=Nat×List RkL×List Rw×Nat×Int) (fun z=>z.1≤ps.l.length∧z.2.1.length=ts0.length∧AlIs m T x z.2.1 z.2.2.1 z.2.2.2.1∧(∃xs,Vm.Stood m.mdl false (alA z.2.1 z.2.2.1 z.2.2.2.1) xs)∧ -1≤z.2.2.2.2∧z.2.2.2.2<(ts0.length:Int)) (fun z=>[(2, .int .i64 Q),(6,ptr rb),(9,ptr x.ab),(10, .int .i64 z.2.2.2.2),(32, .slice ps.o ps.l.length ps.c),(33, .int .i64 (ps.l.length:Int)),(34, .int .i64 (z.1:Int))]) (fun z=>[old w S,md m,wxR x.p,pkR ps,blk rb [.slice none 0 0, .slice none 0 0, .int .i64 0] 36] ++alM m x z.2.1 z.2.2.1 z.2.2.2.1) (fun z=>ps.l.length-z.1) (0,ts0,e0,0, -1)
 rotate_left
 exact sb;exact tks;intro z hz K1 hK1;(refine Jn ?_)
 rotate_left
 ·exact⟨Nat.zero_le _,rfl,e1,hst0,by dsimp only;omega,by dsimp only;omega⟩
 obtain⟨q,us,e,n,la⟩:=z;obtain⟨hq0,hun,hI,hS,hla1,hla2⟩:=hz;dsimp only at hq0 hun hI hS hla1 hla2 hK1⊢
 by_cases hq:q<ps.l.length
 ·obtain⟨tq,q1,htq⟩:∃tq q1,ps.l.getD q default=(tq,q1):=⟨_,_,rfl⟩
  repeat(refine Jy ?_;try first|intro ao cap|intro b)
  rw[htq];have hsp:=pick10_is m hC x us e n hI (by omega) tq q1;obtain⟨P,hP⟩:∃P:List RkL→List Rw→Prop,P=PkIs m T x us e n (tq,q1):=⟨_,rfl⟩;rw[←hP]at hsp;have hPk:∀a c,P a c→AlIs m T x a c (Vm.pick m.mdl false (alA us e n) (tq,q1)).2.n∧a.length=us.length∧alA a c (Vm.pick m.mdl false (alA us e n) (tq,q1)).2.n=(Vm.pick m.mdl false (alA us e n) (tq,q1)).2:=fun a c h=>by rw[hP]at h;exact⟨h.is,h.len,h.ma⟩
  have hSt:∃xs,Vm.Stood m.mdl false (Vm.pick m.mdl false (alA us e n) (tq,q1)).2 xs:=by obtain⟨xs,h⟩:=hS;exact h.pickd _
  have hin:(Vm.pick m.mdl false (alA us e n) (tq,q1)).1.1=0→0≤tq∧tq<(us.length:Int):=fun h=>by
   unfold Vm.pick at h
   by_cases hr:tq<0∨((alA us e n).ts.length:Int)≤tq
   ·rw[if_pos hr]at h;cases h
   ·have:(alA us e n).ts.length=us.length:=by simp[alA]
    omega
  clear hP hS;generalize Vm.pick m.mdl false (alA us e n) (tq,q1)=R at *;(refine Jc ?_;refine OpT.call0_ (spec:=hsp) (r:=(fun w=>Reads.md (tk) (Reads.any (tk) (wxR_excl x.p) .nil))) (k:=?_);intro s hs;(refine Jn ?_));obtain⟨us',e'⟩:=s;obtain⟨g1,g2,g3⟩:=hPk _ _ hs;rw[←g3]at hSt;dsimp only at g1 g2 g3 hSt⊢
  repeat(refine Jy ?_;try first|intro ao cap|intro b)
  (apply Run.op;exact rfl;refine OpT.val_ (h:=by exact Still.fieldI rfl rfl rfl rfl rfl) (k:=?_))
  by_cases hr0:R.1.1=0
  ·obtain⟨i1,i2⟩:=hin hr0
   repeat(refine Jy ?_;try first|intro ao cap|intro b)
   refine End.round0_ hK1 (q+1,us',e',R.2.n,tq) ?_ ?_
   ·exact⟨by dsimp only;omega,by dsimp only;omega,g1,hSt,by dsimp only;omega,by dsimp only;omega⟩
   ·dsimp only;omega
  ·repeat(refine Jy ?_;try first|intro ao cap|intro b)
   refine End.round0_ hK1 (q+1,us',e',R.2.n,la) ?_ ?_
   ·exact⟨by dsimp only;omega,by dsimp only;omega,g1,hSt,hla1,hla2⟩
   ·dsimp only;omega
 ·clear hK1
  repeat(refine Jy ?_;try first|intro ao cap|intro b)
  refine Cod.only ((fun z=>[old w S,md m,wxR x.p,blk rb [.slice none 0 0, .slice none 0 0, .int .i64 0] 36] ++alM m x z.1 z.2.1 z.2.2.1) (us,e,n,la)) (tks) ?_;apply Cod.loop (σ:=List RkL×List Rw×Nat×Int) (fun z=>z.1.length=ts0.length∧AlIs m T x z.1 z.2.1 z.2.2.1∧(∃xs,Vm.Stood m.mdl false (alA z.1 z.2.1 z.2.2.1) xs)∧ -1≤z.2.2.2∧z.2.2.2<(ts0.length:Int)) (fun z=>[(2, .int .i64 Q),(6,ptr rb),(9,ptr x.ab),(10, .int .i64 z.2.2.2)]) (fun z=>[old w S,md m,wxR x.p,blk rb [.slice none 0 0, .slice none 0 0, .int .i64 0] 36] ++alM m x z.1 z.2.1 z.2.2.1) (fun z=>20001-z.2.2.1) (us,e,n,la)
  rotate_left
  exact sb;exact tks;intro z hz K1 hK1;(refine Jn ?_)
  rotate_left
  ·exact⟨hun,hI,hS,hla1,hla2⟩
  clear hI hS hla1 hla2 hun;obtain⟨ts,e1,n1,la⟩:=z;obtain⟨hun,hI,hS,hla1,hla2⟩:=hz;dsimp only at hun hI hS hla1 hla2 hK1⊢;have htb:x.tbs.length=ts0.length:=by rw[←hI.tbs,Jf];exact hun
  have hn20:n1≤20000:=hI.ok.n;obtain⟨C,hCd⟩:∃C,C=(alA ts e1 n1).looked m.mdl:=⟨_,rfl⟩
  repeat(refine Jy ?_;try first|intro ao cap|intro b)
  refine cutN (σ:=List RkL×Int) (fun z=>z.1.length=ts0.length∧AlIs m T x z.1 e1 n1∧(∃xs,Vm.Stood m.mdl false (alA z.1 e1 n1) xs)∧(alA z.1 e1 n1).looked m.mdl=C∧((z.2= -1∧C.ready=[])∨∃k:Nat,z.2=(k:Int)∧k<ts0.length∧(C.ts.getD k default).st=1)) (fun z=>[(2, .int .i64 Q),(6,ptr rb),(9,ptr x.ab),(10, .int .i64 la),(13, .int .i64 z.2)]) (fun z=>[old w S,md m,wxR x.p,blk rb [.slice none 0 0, .slice none 0 0, .int .i64 0] 36] ++alM m x z.1 e1 n1) ?_ ?_
  ·rintro⟨us,nx⟩ ⟨u1,u2,⟨xs,u3⟩,u4,u5⟩;dsimp only at u1 u2 u3 u4 u5⊢;rcases u5 with⟨rfl,u5⟩|⟨k,rfl,k1,k2⟩
   ·rw[←u4]at u5;have hset:=Vm.rest_set u2.ok u3 u5;clear hK1
    repeat(refine Jy ?_;try first|intro ao cap|intro b)
    (refine Jc ?_;refine OpT.call0_ (spec:=world10_is m hC x us e1 n1 u2 (by omega)) (r:=(fun w=>Reads.md (tk) (Reads.any (tk) (wxR_excl x.p) .nil))) (k:=?_);intro s hs;(refine Jn ?_));obtain⟨r,rfl⟩:∃x,x=s:=⟨_,rfl⟩;have g3:=hs;have hdone:=hok hset g3
    repeat(refine Jy ?_;try first|intro ao cap|intro b)
    (refine End.doneC2_ ((r,0)) (he:=Jv) (hp:=?_));exact hdone
   ·have hsp:=pick10_is m hC x us e1 n1 u2 (by omega) (k:Int) Q;obtain⟨P,hP⟩:∃P:List RkL→List Rw→Prop,P=PkIs m T x us e1 n1 ((k:Int),Q):=⟨_,rfl⟩;rw[←hP]at hsp;have hPk:∀a c,P a c→AlIs m T x a c (Vm.pick m.mdl false (alA us e1 n1) ((k:Int),Q)).2.n∧a.length=us.length∧alA a c (Vm.pick m.mdl false (alA us e1 n1) ((k:Int),Q)).2.n=(Vm.pick m.mdl false (alA us e1 n1) ((k:Int),Q)).2:=fun a c h=>by rw[hP]at h;exact⟨h.is,h.len,h.ma⟩
    have hSt:∃xs,Vm.Stood m.mdl false (Vm.pick m.mdl false (alA us e1 n1) ((k:Int),Q)).2 xs:=u3.pickd _;have hdn:=Vm.pick_done (M:=m.mdl) (told:=false) (c:=alA us e1 n1) (p:=((k:Int),Q));have hmore:=fun he=>Vm.pick_more u2.ok u3 (q:=Q) (by omega) (by omega) (k:=k) (by show k<(us.map RkL.tk).length;rw[Jf];omega) (by rw[u4];exact k2) he
    clear hP u3 u4 k2;generalize Vm.pick m.mdl false (alA us e1 n1) ((k:Int),Q)=R at *
    repeat(refine Jy ?_;try first|intro ao cap|intro b)
    (refine Jc ?_;refine OpT.call0_ (spec:=hsp) (r:=(fun w=>Reads.md (tk) (Reads.any (tk) (wxR_excl x.p) .nil))) (k:=?_);intro s hs;(refine Jn ?_));obtain⟨us',e'⟩:=s;obtain⟨g1,g2,g3⟩:=hPk _ _ hs;rw[←g3]at hSt;dsimp only at g1 g2 g3 hSt hdn⊢
    repeat(refine Jy ?_;try first|intro ao cap|intro b)
    (apply Run.op;exact rfl;refine OpT.val_ (h:=by exact Still.fieldI rfl rfl rfl rfl rfl) (k:=?_))
    by_cases hr0:¬R.1.1=0
    ·have hdone:=hten (hmore hr0)
     repeat(refine Jy ?_;try first|intro ao cap|intro b)
     apply End.imp (fun w hm=>(((hm.bagNil).bagNil).nilArr 102 enC).nilArr 63 rwC);(refine End.doneC2_ ((RunL.zero.w,10)) (he:=Jv) (hp:=?_));exact hdone
    ·have hr0:=Classical.not_not.1 hr0;have hd1:=hdn hr0;have hn2:=g1.ok.n
     repeat(refine Jy ?_;try first|intro ao cap|intro b)
     refine End.round0_ hK1 (us',e',R.2.n,(k:Int)) ?_ ?_
     ·exact⟨by dsimp only;omega,g1,hSt,by dsimp only;omega,by dsimp only;omega⟩
     ·dsimp only;omega
  ·intro K3 hK3;clear hK1;refine Cod.only ((fun z=>[old w S,md m,wxR x.p,blk rb [.slice none 0 0, .slice none 0 0, .int .i64 0] 36] ++alM m x z.2.1 e1 n1) (1,ts, -1)) (tks) ?_;apply Cod.loop (σ:=Nat×List RkL×Int) (fun z=>1≤z.1∧z.1≤x.tbs.length+1∧z.2.1.length=ts0.length∧AlIs m T x z.2.1 e1 n1∧(∃xs,Vm.Stood m.mdl false (alA z.2.1 e1 n1) xs)∧(alA z.2.1 e1 n1).looked m.mdl=C∧((z.2.2= -1∧∀i,1≤i→i<z.1→¬(C.ts.getD (Vm.kOf x.tbs.length la i) default).st=1)∨∃k:Nat,z.2.2=(k:Int)∧k<ts0.length∧(C.ts.getD k default).st=1)) (fun z=>[(2, .int .i64 Q),(6,ptr rb),(9,ptr x.ab),(10, .int .i64 la),(13, .int .i64 z.2.2),(14, .int .i64 (z.1:Int))]) (fun z=>[old w S,md m,wxR x.p,blk rb [.slice none 0 0, .slice none 0 0, .int .i64 0] 36] ++alM m x z.2.1 e1 n1) (fun z=>x.tbs.length+1-z.1) (1,ts, -1)
   rotate_left
   exact sb;exact tks;intro z hz K4 hK4;(refine Jn ?_)
   rotate_left
   ·exact⟨Nat.le_refl _,by dsimp only;omega,hun,hI,hS,hCd.symm, .inl ⟨rfl,fun i h1 h2=>by dsimp only at h2;omega⟩⟩
   clear hI hS hun hCd;obtain⟨i,us,nx⟩:=z;obtain⟨i1,i2,hun,hI,hS,hCd,hno⟩:=hz;dsimp only at i1 i2 hun hI hS hCd hno hK4⊢;rcases hno with⟨rfl,hno⟩|⟨k,rfl,k1,k2⟩
   rotate_left
   ·by_cases hin:i≤x.tbs.length
    ·repeat(refine Jy ?_;try first|intro ao cap|intro b)
     refine End.some_ hK3 (us,(k:Int)) ?_;exact⟨hun,hI,hS,hCd, .inr ⟨k,rfl,k1,k2⟩⟩
    ·repeat(refine Jy ?_;try first|intro ao cap|intro b)
     refine End.some_ hK3 (us,(k:Int)) ?_;exact⟨hun,hI,hS,hCd, .inr ⟨k,rfl,k1,k2⟩⟩
   by_cases hin:i≤x.tbs.length
   ·have hkl:Vm.kOf x.tbs.length la i<us.length:=by have:=Vm.kOf_lt (N:=x.tbs.length) (by omega) la i;omega
    have hkm:=kOf_is (N:=x.tbs.length) (la:=la) hla1 i1;obtain⟨k,hk⟩:∃k,k=Vm.kOf x.tbs.length la i:=⟨_,rfl⟩;rw[←hk]at hkl hkm;have htbn:(x.tbs.length:Int)≠0:=by omega
    have hsp:=can10_is m hC x us e1 n1 hI k hkl;rw[hCd]at hsp
    repeat(refine Jy ?_;try first|intro ao cap|intro b)
    refine RunQ.val_ (h:=by exact Still.rem rfl rfl (by omega) hkm) (k:=?_)
    repeat(refine Jy ?_;try first|intro ao cap|intro b)
    (refine Jc ?_;refine OpT.call0_ (spec:=hsp) (r:=(fun w=>Reads.md (tk) (Reads.any (tk) (wxR_excl x.p) .nil))) (k:=?_);intro s hs;(refine Jn ?_));obtain⟨us2,rfl⟩:∃x,x=s:=⟨_,rfl⟩;obtain⟨v1,v2,v3⟩:=hs;have v4:∃xs,Vm.Stood m.mdl false (alA us2 e1 n1) xs:=by
     obtain⟨xs,h⟩:=hS;rw[v3];exact⟨xs,h.see (by show k<(us.map RkL.tk).length;rw[Jf];exact hkl)⟩
    have v5:(alA us2 e1 n1).looked m.mdl=C:=by rw[v3,Vm.seen_looked,hCd]
    clear v3 hS hCd
    by_cases hst:(C.ts.getD k default).st=1
    ·repeat(refine Jy ?_;try first|intro ao cap|intro b)
     refine End.round0_ hK4 (i+1,us2,(k:Int)) ?_ ?_
     ·exact⟨by dsimp only;omega,by dsimp only;omega,by dsimp only;omega,v2,v4,v5, .inr ⟨k,rfl,by omega,hst⟩⟩
     ·dsimp only;omega
    ·repeat(refine Jy ?_;try first|intro ao cap|intro b)
     refine End.round0_ hK4 (i+1,us2,(-1:Int)) ?_ ?_
     ·refine⟨by dsimp only;omega,by dsimp only;omega,by dsimp only;omega,v2,v4,v5, .inl ⟨rfl,fun j h1 h2=>?_⟩⟩;dsimp only at h2
      by_cases ej:j=i
      ·subst ej;rw[←hk];exact hst
      ·exact hno j h1 (by omega)
     ·dsimp only;omega
   ·have hr:C.ready=[]:=by
     rw[←hCd];have hlen:(alA us e1 n1).ts.length=x.tbs.length:=by show(us.map RkL.tk).length=_;rw[Jf];omega
     refine Vm.none_ready hla1 (by rw[hlen];omega) (fun i h1 h2=>?_);rw[hlen]at h2⊢;rw[hCd];exact hno i h1 (by omega)
    repeat(refine Jy ?_;try first|intro ao cap|intro b)
    refine End.some_ hK3 (us,(-1:Int)) ?_;exact⟨hun,hI,hS,hCd, .inl ⟨rfl,hr⟩⟩
end
section
structure EL where
 o:Option Addr
 c:Nat
 l:List EnL
abbrev EL.val(f:EL):Value:= .slice f.o f.l.length f.c
structure EdAt(w:World)(f:EL):Prop where
 out:Row w (.slice f.o f.l.length f.c) (sz enC) f.l.length (f.l.flatMap enC)
 row:∀r∈f.l,Row w (.slice r.oo r.out.length r.oc) (sz i64c) r.out.length (r.out.flatMap i64c)
def EdFoot(f:EL)(k:Nat):Prop:=
 ((Value.slice f.o f.l.length f.c).ownBlock=some k∧0<f.l.length)∨∃r∈f.l,(Value.slice r.oo r.out.length r.oc).ownBlock=some k∧0<r.out.length
theorem EdAt.keep{w w':World}{f:EL}(h:EdAt w f){S:Nat→Prop}(k:Keeps S w w')(hs:∀b,EdFoot f b→¬S b):EdAt w' f:=
 ⟨h.out.keep'' Enc.pos k (fun b h1 h2=>hs b (.inl ⟨h1,h2⟩)),fun r hr=>(h.row r hr).keep'' Enc.pos k (fun b h1 h2=>hs b (.inr ⟨r,hr,h1,h2⟩))⟩
theorem EdAt.lt{w:World}{f:EL}(h:EdAt w f):∀b,EdFoot f b→b<w.heap.size:=by
 rintro b (⟨h1,h2⟩|⟨r,hr,h1,h2⟩)
 ·exact h.out.lt' Enc.pos h2 b h1
 ·exact(h.row r hr).lt' Enc.pos h2 b h1
@[irreducible] def ed (f : EL) : Chunk where
 holds w:=EdAt w f
 foot:=EdFoot f
 excl:=false
 stab k hs h:=h.keep k hs
 lt h:=h.lt
theorem ed_holds{w:World}{f:EL}:(ed f).holds w↔EdAt w f:=by unfold ed;exact Iff.rfl
theorem ed_foot{f:EL}{k:Nat}:(ed f).foot k↔EdFoot f k:=by unfold ed;exact Iff.rfl
theorem ed_excl{f:EL}:(ed f).excl=false:=by unfold ed;rfl
theorem en_mem{l:List EnL}{k:Nat}(hk:k<l.length):l.getD k default∈l:=by
 rw[Jd,Je hk];exact List.getElem_mem hk
section
variable{f:EL}{L L':List Chunk}{w:World}
theorem Mem.edOut(t:Take (ed f) L L')(h:Mem w L):Mem w (rd f.o f.l.length f.c enC f.l::L):=
 h.dup t rd_excl (rd_holds.2 ⟨(ed_holds.1 (h.has t)).out,rfl⟩) (fun b hb=>ed_foot.2 (.inl (rd_foot.1 hb))) ed_excl
theorem Mem.edRow{k:Nat}(hk:k<f.l.length)(t:Take (ed f) L L')(h:Mem w L):Mem w (rd (f.l.getD k default).oo (f.l.getD k default).out.length (f.l.getD k default).oc i64c (f.l.getD k default).out::L):=
 h.dup t rd_excl (rd_holds.2 ⟨(ed_holds.1 (h.has t)).row _ (en_mem hk),rfl⟩) (fun b hb=>ed_foot.2 (.inr ⟨_,en_mem hk,rd_foot.1 hb⟩)) ed_excl
end
theorem ed_own{w:World}{L F:List Chunk}{f:EL}{e:TypeId}(tk:Takes [arr f.o f.l.length f.c e enC f.l,bag (f.l.map enM)] L F)(h:Mem w L):Mem w (ed f::F):=by
 have ht:=h.takes tk;have a1:=arr_holds.1 (ht.all _ (.head _));have a2:=bag_holds.1 (ht.all _ (.tail _ (.head _)));have hrow:∀r∈f.l,(enM r).holds w:=fun r hr=>a2.1.all _ (List.mem_map.2 ⟨r,hr,rfl⟩)
 refine Mem.toRead tk h (ed_holds.2 ⟨a1.1.row Enc.pos,fun r hr=>(arr_holds.1 (hrow r hr)).1.row Enc.pos⟩) ed_excl (fun b hb=>?_);rcases ed_foot.1 hb with⟨h1,h2⟩|⟨r,hr,h1,h2⟩
 ·exact⟨_, .head _,arr_foot.2 ⟨h1,Nat.lt_of_lt_of_le h2 a1.1.le⟩⟩
 ·exact⟨_, .tail _ (.head _),bag_foot.2 ⟨_,List.mem_map.2 ⟨r,hr,rfl⟩,arr_foot.2 ⟨h1,Nat.lt_of_lt_of_le h2 (arr_holds.1 (hrow r hr)).1.le⟩⟩⟩
abbrev WoL.el(r:WoL):EL:=⟨r.eo,r.ec,r.ends⟩
abbrev WoL.fl(r:WoL):FL:=⟨r.wo,r.wc,r.rows⟩
theorem wo_own{w:World}{L F:List Chunk}(r:WoL)(t:Takes r.mem L F)(h:Mem w L):Mem w (ed r.el::fd r.fl::F):=by
 have h1:Mem w (r.mem ++F):=h.takes t;have h2:=ed_own (f:=r.el) (e:=102) (L:=r.mem ++F) (by exact .cons .head (.cons .head .nil)) h1;have h3:=fd_own (f:=r.fl) (t:=2) (e:=63) (by exact .cons (.tail .head) (.cons (.tail .head) .nil)) h2;exact h3.takes (by exact .cons (.tail .head) (.cons .head .nil))
attribute [local irreducible] Run Cod End OpT Still RunQ RunS RunT Fn PutOk
set_option maxHeartbeats 2000000 in
theorem sameEnds_is(f g:EL)(h:f.l.map enOf=g.l.map enOf):Fn Tryz.prog 22 #[f.val,g.val] [ed f,ed g] [] (σ:=Unit) (fun _=>True) (fun _=> .bool true) (fun _=>[]):=by
 have hl:g.l.length=f.l.length:=by have:=congrArg List.length h;simpa using this.symm
 have hr:∀k,enOf (g.l.getD k default)=enOf (f.l.getD k default):=fun k=>by
  have h1:(f.l.map enOf)[k]?=(g.l.map enOf)[k]?:=by rw[h]
  simp only[JU]at h1;simp only[Jd]
  cases ha:f.l[k]?<;>cases hb:g.l[k]?<;>simp[ha,hb]at h1⊢
  exact h1.symm
 refine Fn.enter (args:=[f.val,g.val]) Tryz.func22 rfl _ Tryz.ntmps22 rfl (by simp[ed_excl]) (fun w S=>?_);(refine Jn ?_);apply Cod.fact (f.l.length≤9223372036854775807) (fun w hm=>(ed_holds.1 (hm.has (c:=ed f) (tk))).out.2.1);intro hfs;apply Cod.imp (fun w hm=>Mem.edOut (f:=f) (tk) hm);apply Cod.imp (fun w hm=>Mem.edOut (f:=g) (tk) hm)
 repeat(refine Jy ?_;try first|intro ao cap|intro b)
 refine Cod.only ((fun k=>[old w S,ed f,ed g,rd f.o f.l.length f.c enC f.l,rd g.o g.l.length g.c enC g.l]) 0) (tks) ?_;apply Cod.loop (σ:=Nat) (fun k=>k≤f.l.length) (fun k=>[(0,f.val),(1,g.val),(12, .int .i64 (f.l.length:Int)),(13, .int .i64 (k:Int))]) (fun k=>[old w S,ed f,ed g,rd f.o f.l.length f.c enC f.l,rd g.o g.l.length g.c enC g.l]) (fun k=>f.l.length-k) 0
 rotate_left
 exact sb;exact tks;intro k hk K1 hK1;(refine Jn ?_)
 rotate_left
 ·exact Nat.zero_le _
 by_cases hkn:k<f.l.length
 ·apply Cod.imp (fun w hm=>Mem.edRow (f:=f) (k:=k) hkn (tk) hm);apply Cod.imp (fun w hm=>Mem.edRow (f:=g) (k:=k) (by omega) (tk) hm);have hrk:=hr k;simp only[enOf,Prod.mk.injEq]at hrk;obtain⟨r1,r2,r3,r4⟩:=hrk
  repeat(refine Jy ?_;try first|intro ao cap|intro b)
  refine JQ (same9_is ⟨(f.l.getD k default).oo,(f.l.getD k default).oc,(f.l.getD k default).out⟩ ⟨(g.l.getD k default).oo,(g.l.getD k default).oc,(g.l.getD k default).out⟩ r4.symm) ?_;intro s hs;(refine Jn ?_)
  repeat(refine Jy ?_;try first|intro ao cap|intro b)
  refine End.round0_ hK1 (k+1) ?_ ?_
  ·omega
  ·omega
 ·repeat(refine Jy ?_;try first|intro ao cap|intro b)
  (refine End.done1_ (()) (he:=Jv) (hp:=?_));trivial
end
attribute [local irreducible] Run Cod End OpT Still RunQ RunS RunT Fn PutOk
structure WoL.Eq(a b:WoL):Prop where
 ends:a.ends.map enOf=b.ends.map enOf
 rows:a.rows.map (·.l)=b.rows.map (·.l)
 n:a.n=b.n
theorem WoL.Is.eq{a b:WoL}{c:Vm.Ma}(ha:a.Is c)(hb:b.Is c):a.Eq b:=⟨ha.ends.trans hb.ends.symm,ha.rows.trans hb.rows.symm,ha.n.trans hb.n.symm⟩
set_option maxHeartbeats 2000000 in
theorem same10_is(r v:WoL)(h:r.Eq v):Fn Tryz.prog 10 #[.agg r.cells.toArray, .agg v.cells.toArray] [ed r.el,fd r.fl,ed v.el,fd v.fl] [] (σ:=Unit) (fun _=>True) (fun _=> .bool true) (fun _=>[]):=by
 have hn:=h.n;refine Fn.enter (args:=[.agg r.cells.toArray, .agg v.cells.toArray]) Tryz.func10 rfl _ Tryz.ntmps10 rfl (by simp[ed_excl,fd_excl]) (fun w S=>?_);(refine Jn ?_)
 repeat(refine Jy ?_;try first|intro ao cap|intro b)
 (refine Jc ?_;refine OpT.call0_ (spec:=sameEnds_is r.el v.el h.ends) (r:=(fun w=>Reads.any (tk) ed_excl (Reads.any (tk) ed_excl .nil))) (k:=?_);intro s hs;(refine Jn ?_))
 repeat(refine Jy ?_;try first|intro ao cap|intro b)
 (refine Jc ?_;refine OpT.call0_ (spec:=sameAll_is r.fl v.fl h.rows) (r:=(fun w=>Reads.any (tk) fd_excl (Reads.any (tk) fd_excl .nil))) (k:=?_);intro s hs;(refine Jn ?_))
 repeat(refine Jy ?_;try first|intro ao cap|intro b)
 (refine End.done1_ (()) (he:=Jv) (hp:=?_));trivial
end Go.Proofs.YtjehflelkpacfaaGreat.Vw
