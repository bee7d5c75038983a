/- Trace, walked. -/
import Derived.Test.YtjehflelkpacfaaGreatM41
import Derived.Laws.StructEq
set_option linter.unusedVariables false
set_option linter.unusedSimpArgs false
set_option linter.unusedSectionVars false
set_option maxRecDepth 100000
namespace Go.Proofs.YtjehflelkpacfaaGreat.Vw
open Go.RowKit Go.Proofs.YtjehflelkpacfaaGreat.Img
section
structure TrL where
 o:Option Addr
 c:Nat
 l:List (Nat×Vm.Ev)
def TrIs(m:ML)(ps:List (Int×Int))(r:TrL):Prop:=if Vm.wrong m.mdl ps.length=0 then r.l=(Vm.picks m.mdl true ps (Vm.Ma.init m.mdl)).2.bs.log else r=⟨none,0,[]⟩
abbrev TrL.mem(r:TrL):List Chunk:=[arr r.o r.l.length r.c 57 evC r.l]
def tdK(ob:Nat)(kbs:List Nat):Nat→Value:=fun j=>if j<kbs.length then toldV (some (15,[ptr ob,ptr (kbs.getD j 0)]))else .nilFunc
theorem tdK_end(ob:Nat)(kbs:List Nat):tdK ob kbs kbs.length= .nilFunc:=if_neg (Nat.lt_irrefl _)
theorem tdK_new(ob:Nat)(kbs:List Nat)(kb:Nat):tdK ob (kbs ++[kb]) kbs.length= .func (.func 15) #[] #[ptr ob,ptr kb]:=by
 unfold tdK;rw[if_pos (by simp),Jd];simp[toldV]
theorem tdK_old(ob:Nat)(kbs:List Nat)(kb:Nat){j:Nat}(hj:j≠kbs.length):tdK ob (kbs ++[kb]) j=tdK ob kbs j:=by
 unfold tdK
 by_cases h:j<kbs.length
 ·rw[if_pos h,if_pos (by simp;omega),Jd,List.getElem?_append_left h,Jd]
 ·rw[if_neg h,if_neg (by simp;omega)]
theorem tksL_congr(mb:Nat)(mail:Value){told told':Nat→Value}:∀(k:Nat) (l:List TkL),(∀j,k≤j→j<k+l.length→told j=told' j)→tksL mb mail told k l=tksL mb mail told' k l
 |k,[],h=>rfl
 |k,t::l,h=>by
  simp only[tksL];rw[h k (Nat.le_refl _) (by simp),tksL_congr mb mail (k+1) l (fun j h1 h2=>h j (by omega) (by simp at h2⊢;omega))]
theorem tksO_congr(mb:Nat)(mail:Value){told told':Nat→Value}(l:List TkL)(k:Nat)(h:∀j,j≠k→told j=told' j):tksO mb mail told l k=tksO mb mail told' l k:=by
 unfold tksO;rw[tksL_congr mb mail 0 (l.take k) (fun j _ h2=>h j (by simp at h2;omega)),tksL_congr mb mail (k+1) (l.drop (k+1)) (fun j h1 _=>h j (by omega))]
theorem kcs_snoc(kbs:List Nat)(kb:Nat):kcs (kbs ++[kb])=kcs kbs ++[blk kb [.int .i64 (kbs.length:Int)] 3]:=by
 unfold kcs;rw[Jl,List.length_singleton,List.range_succ,Jq,List.map_singleton];congr 1
 ·refine List.map_congr_left fun j hj=>?_
  rw[Jd,List.getElem?_append_left (List.mem_range.1 hj),Jd]
 ·rw[Jd];simp
theorem setL_getD{l:List TkL}{k:Nat}(hk:k<l.length):l.set k (l.getD k default)=l:=by
 refine List.ext_getElem (by simp) fun j h1 h2=>?_
 rw[List.getElem_set]
 split
 ·rename_i e;subst e;rw[Jd,Je h2];rfl
 ·rfl
def MaP.tell(x:MaP)(ob:Nat)(kbs:List Nat):MaP:={x with p:={x.p with tr:=some (ob,kbs)}}
theorem tell_on{w:World}{L F:List Chunk}{p:BxP}{e:BxE}{ob:Nat}{kbs:List Nat}(hp:p.tr=none)(h1:e.oo=none)(h2:e.oc=0)(h3:e.ev=[])(t:Takes [bxM p e,blk ob [.slice none 0 0] 27,bag (kcs kbs)] L F)(h:Mem w L):Mem w (bxM {p with tr:=some (ob,kbs)} e::F):=by
 have h4:Mem w (bxM p e::(blk ob [.slice none 0 0] 27::bag (kcs kbs)::F)):=h.takes t;have h5:Mem w (bag (e.rs.flatMap rgM)::bag (outC p e)::(blk ob [.slice none 0 0] 27::bag (kcs kbs)::F)):=Mem.unpack h4;have h6:=h5.nilArr 57 evC;have hO:outC {p with tr:=some (ob,kbs)} e=[blk ob [.slice none 0 0] 27,arr none 0 0 57 evC [],bag (kcs kbs)]:=by
  unfold outC;dsimp only;rw[h1,h2,h3];rfl
 have h7:=Mem.pack (cs:=[blk ob [.slice none 0 0] 27,arr none 0 0 57 evC [],bag (kcs kbs)]) (L:=bag (e.rs.flatMap rgM)::bag (outC p e)::F) (h6.takes (by exact .cons (.tail (.tail (.tail .head))) (.cons .head (.cons (.tail (.tail .head)) .nil)))) (fun c hc=>by simp at hc;rcases hc with rfl|rfl|rfl;exact blk_excl;exact arr_excl;exact bag_excl);rw[←hO]at h7;have h8:=Mem.pack (cs:=[bag (e.rs.flatMap rgM),bag (outC {p with tr:=some (ob,kbs)} e)]) (L:=bag (outC p e)::F) (h7.takes (by exact .cons (.tail .head) (.cons .head .nil))) (fun c hc=>by simp at hc;rcases hc with rfl|rfl<;>exact bag_excl);exact h8.sub (List.Sublist.cons_cons _ (List.sublist_cons_self _ _))
theorem tell_out{w:World}{L L':List Chunk}{p:BxP}{e:BxE}{ob:Nat}{kbs:List Nat}(hp:p.tr=some (ob,kbs))(t:Take (bxM p e) L L')(h:Mem w L):Mem w (blk ob [.slice e.oo e.ev.length e.oc] 27::arr e.oo e.ev.length e.oc 57 evC e.ev::L'):=by
 have h5:Mem w (bag (e.rs.flatMap rgM)::bag (outC p e)::L'):=Mem.unpack (h.take t);have h6:=Mem.unpack (h5.take (show Take (bag (outC p e)) _ _ from .tail .head));have hO:outC p e=[blk ob [.slice e.oo e.ev.length e.oc] 27,arr e.oo e.ev.length e.oc 57 evC e.ev,bag (kcs kbs)]:=by unfold outC;rw[hp]
 rw[hO]at h6;exact(h6.takes (show Takes [blk ob [.slice e.oo e.ev.length e.oc] 27,arr e.oo e.ev.length e.oc 57 evC e.ev] _ _ from .cons .head (.cons .head .nil))).sub (by simp)
attribute [local irreducible] Run Cod End OpT Still RunQ RunS RunT Fn PutOk
attribute [local irreducible] Ver.verify Vm.wrong Vm.picks
def ctOf(m:ML)(ps:List (Int×Int))(k:Nat):Vm.Ma:=(Vm.picks m.mdl true (ps.take k) (Vm.Ma.init m.mdl)).2
theorem ctOf_zero(m:ML)(ps:List (Int×Int)):ctOf m ps 0=Vm.Ma.init m.mdl:=by unfold ctOf Vm.picks;rfl
theorem ctOf_succ(m:ML)(ps:List (Int×Int)){k:Nat}(hk:k<ps.length):ctOf m ps (k+1)=(Vm.pick m.mdl true (ctOf m ps k) (ps.getD k default)).2:=congrArg Prod.snd (Vm.picks_succ m.mdl true ps _ k hk)
theorem ctOf_all(m:ML)(ps:List (Int×Int)):ctOf m ps ps.length=(Vm.picks m.mdl true ps (Vm.Ma.init m.mdl)).2:=by unfold ctOf;rw[List.take_length]
set_option maxHeartbeats 2000000 in
theorem trace_is(m:ML)(hwf:m.Wf)(ps:PkL):Fn Tryz.prog 5 #[m.val,ps.val] [md m,pkR ps] [] (σ:=TrL) (TrIs m ps.l) (fun r=> .tuple #[.slice r.o r.l.length r.c, .int .i64 (Vm.wrong m.mdl ps.l.length)]) TrL.mem:=by
 refine Fn.enter (args:=[m.val,ps.val]) Tryz.func5 rfl _ Tryz.ntmps5 rfl (by simp[md_excl,rd_excl]) (fun w S=>?_);(refine Jn ?_);obtain⟨W,hW⟩:∃W,W=Vm.wrong m.mdl ps.l.length:=⟨_,rfl⟩;unfold TrIs;rw[←hW]
 repeat(refine Jy ?_;try first|intro ao cap|intro b)
 (refine JQ (wrong_is m hwf ps.l.length) ?_;intro s hs;(refine Jn ?_));rw[←hW]
 by_cases h0:¬W=0
 ·repeat(refine Jy ?_;try first|intro ao cap|intro b)
  apply End.imp (fun w hm=>hm.nilArr 57 evC);(refine End.done2_ ((⟨none,0,[]⟩:TrL)) (he:=Jv) (hp:=?_));rw[if_neg h0]
 have h0:=Classical.not_not.1 h0;subst h0;obtain⟨hv,hp4⟩:=wrong_zero hW.symm;have hF:=formed (Ver.verify_iff.1 hv).form;have hu30:=hF.units;have hb30:=hF.boxes;obtain⟨T,hC⟩:=certs_ml hwf hv
 repeat(refine Jy ?_;try first|intro ao cap|intro b)
 obtain⟨mb,rfl⟩:∃x,x=b:=⟨_,rfl⟩;(refine JQ (begin2_is mb m hb30 hu30 (caps_ok hv) (fun k hk=>(head_ok (hF.head k hk)).1)) ?_;intro s hs;(refine Jn ?_));obtain⟨e1,e2⟩:=beg_is hC hs mb;have hn:=beg_len hs hu30;have hk0:=ctOf_zero m ps.l;obtain⟨n0,hn0'⟩:∃n,n=(ctOf m ps.l 0).n:=⟨_,rfl⟩;have hn0:n0=0:=by rw[hn0',hk0];rfl
 apply Run.imp' (fun w hm=>beg_ma s hn0 (tks) hm);(refine Jn ?_);obtain⟨x,hx⟩:∃x,x=s.pl mb:=⟨_,rfl⟩;obtain⟨ts0,ht0⟩:∃x,x=s.ts:=⟨_,rfl⟩;obtain⟨e0,he0⟩:∃x,x=s.be:=⟨_,rfl⟩;have hxb:s.xb=x.xb:=by rw[hx];rfl
 have hxt:x.p.tr=none:=by rw[hx];rfl
 have eo1:e0.oo=none:=by rw[he0];rfl
 have eo2:e0.oc=0:=by rw[he0];rfl
 have eo3:e0.ev=[]:=by rw[he0];rfl
 rw[←hx]at e1;rw[←ht0,←he0]at e1 e2;rw[←ht0]at hn;rw[hxb,←hx,←ht0,←he0];clear hx ht0 he0 hxb hs s;have htb:x.tbs.length=ts0.length:=by rw[←e1.tbs,Jf]
 repeat(refine Jy ?_;try first|intro ao cap|intro b)
 obtain⟨ob,rfl⟩:∃x,x=b:=⟨_,rfl⟩;apply Cod.imp (fun w hm=>hm.bagNil);subst hn0';refine Cod.only ((fun z=>[old w S,md m,bxR x.p,pkR ps,blk ob [.slice none 0 0] 27,bag (kcs z.2),blk x.xb (maC x.to x.tbs.length x.tc x.p.bo x.p.bs.length x.p.bc (ctOf m ps.l 0).n) 54,blk x.mb (mdV m) 25,arr x.to x.tbs.length x.tc 55 ptrC x.tbs,bxM x.p e0,tksM x.mb (bxV x.p.bo x.p.bs.length x.p.bc) (tdK ob z.2) ts0]) (0,[])) (tks) ?_;apply Cod.loop (σ:=Nat×List Nat) (fun z=>z.1≤ts0.length∧z.2.length=z.1) (fun z=>[(1,ps.val),(7,ptr x.xb),(8,ptr ob),(24, .slice x.to x.tbs.length x.tc),(25, .int .i64 (x.tbs.length:Int)),(26, .int .i64 (z.1:Int))]) (fun z=>[old w S,md m,bxR x.p,pkR ps,blk ob [.slice none 0 0] 27,bag (kcs z.2),blk x.xb (maC x.to x.tbs.length x.tc x.p.bo x.p.bs.length x.p.bc (ctOf m ps.l 0).n) 54,blk x.mb (mdV m) 25,arr x.to x.tbs.length x.tc 55 ptrC x.tbs,bxM x.p e0,tksM x.mb (bxV x.p.bo x.p.bs.length x.p.bc) (tdK ob z.2) ts0]) (fun z=>ts0.length-z.1) (0,[])
 rotate_left
 exact sb;exact tks;intro z hz K1 hK1;(refine Jn ?_)
 rotate_left
 ·exact⟨Nat.zero_le _,rfl⟩
 obtain⟨q,kbs⟩:=z;obtain⟨hq0,hkl⟩:=hz;dsimp only at hq0 hkl hK1⊢
 by_cases hq:q<ts0.length
 ·obtain⟨t,ht⟩:∃t,t=ts0.getD q default:=⟨_,rfl⟩;have htbq:x.tbs.getD q default=t.tb:=by
   rw[←e1.tbs,ht,Jd,Jd,JU,Je hq];rfl
  have hend:=tdK_end ob kbs;rw[hkl]at hend;apply Cod.imp (fun w hm=>by have:=Mem.tkOut (k:=q) hm (tk) hq;rw[←ht,hend]at this;exact this);(refine Jn ?_)
  repeat(refine Jy ?_;try first|intro ao cap|intro b)
  rw[htbq]
  repeat(refine Jy ?_;try first|intro ao cap|intro b)
  obtain⟨kb,rfl⟩:∃x,x=b:=⟨_,rfl⟩;have htn:=tdK_new ob kbs kb;rw[hkl]at htn;have hset:ts0.set q t=ts0:=by rw[ht];exact setL_getD hq
  rw[tksO_congr x.mb (bxV x.p.bo x.p.bs.length x.p.bc) (told:=tdK ob kbs) (told':=tdK ob (kbs ++[kb])) ts0 q (fun j hj=>(tdK_old ob kbs kb (by omega)).symm)];apply End.imp (fun w hm=>by have h2:=Mem.tkIn (told:=tdK ob (kbs ++[kb])) (t:=t) hm (tk) (by rw[htn];(repeat(first|exact Takes.nil|exact Take.head|apply Take.tail|apply Takes.cons))) hq;rw[hset]at h2;exact h2);have hks:=kcs_snoc kbs kb;rw[hkl]at hks;apply End.imp (fun w hm=>by have h2:=Mem.bagAdd (cs:=kcs kbs) (ds:=[blk kb [.int .i64 (q:Int)] 3]) hm (tk) (tks) (fun c hc=>by simp at hc;subst hc;exact blk_excl);rw[←hks]at h2;exact h2);refine End.round0_ hK1 (q+1,kbs ++[kb]) ?_ ?_
  ·exact⟨by dsimp only;omega,by simp[hkl]⟩
  ·dsimp only;omega
 ·obtain rfl:q=ts0.length:=by omega
  clear hK1;apply Cod.imp (fun w hm=>tell_on hxt eo1 eo2 eo3 (tks) hm);(refine Jn ?_);obtain⟨X,hX⟩:∃X,X=x.tell ob kbs:=⟨_,rfl⟩;have y1:x.xb=X.xb:=by rw[hX];rfl
  have y2:x.mb=X.mb:=by rw[hX];rfl
  have y3:x.to=X.to:=by rw[hX];rfl
  have y4:x.tc=X.tc:=by rw[hX];rfl
  have y5:x.tbs=X.tbs:=by rw[hX];rfl
  have y6:({x.p with tr:=some (ob,kbs)}:BxP)=X.p:=by rw[hX];rfl
  have y7:x.p.bo=X.p.bo:=by rw[hX];rfl
  have y8:x.p.bc=X.p.bc:=by rw[hX];rfl
  have y9:x.p.bs=X.p.bs:=by rw[hX];rfl
  have y10:X.p.tr=some (ob,kbs):=by rw[hX];rfl
  have hK:∀k,k<ts0.length→KOk X.p (Vm.tOf true k):=fun k hk=>by
   exact⟨ob,kbs,y10,by omega⟩
  have htd:tksM X.mb (bxV X.p.bo X.p.bs.length X.p.bc) (tdK ob kbs) ts0=tksM X.mb (bxV X.p.bo X.p.bs.length X.p.bc) (tdV X.p true) ts0:=by
   unfold tksM;rw[tksL_congr X.mb (bxV X.p.bo X.p.bs.length X.p.bc) (told:=tdK ob kbs) (told':=tdV X.p true) 0 ts0 (fun j _ hj=>by
    have hj':j<kbs.length:=by omega
    unfold tdK;rw[if_pos hj'];show toldV (some (15,[ptr ob,ptr (kbs.getD j 0)]))=toldV (some (15,match X.p.tr with|none=>[]|some (ob,kbs)=>[ptr ob,ptr (kbs.getD j 0)]));rw[y10])]
  have e1':MaIs m T X ts0 e0 (ctOf m ps.l 0).n:=by
   rw[hn0,hX];exact⟨e1.tbs,e1.wf,⟨e1.bx.at_,e1.bx.len,e1.bx.ok,e1.bx.cap⟩,e1.ok⟩
  unfold bxR;rw[y6,y7,y8,y9,y1,y2,y3,y4,y5,htd];rw[y5]at htb;clear hX y1 y2 y3 y4 y5 y6 y7 y8 y9 htd e1 hxt
  repeat(refine Jy ?_;try first|intro ao cap|intro b)
  refine Cod.only ((fun z=>[old w S,md m,bxR X.p,pkR ps] ++maB m X true z.2.1 z.2.2 (ctOf m ps.l z.1).n) (0,ts0,e0)) (tks) ?_;apply Cod.loop (σ:=Nat×List TkL×BxE) (fun z=>z.1≤ps.l.length∧z.2.1.length=ts0.length∧MaIs m T X z.2.1 z.2.2 (ctOf m ps.l z.1).n∧maA z.2.1 z.2.2 (ctOf m ps.l z.1).n=ctOf m ps.l z.1) (fun z=>[(7,ptr X.xb),(8,ptr ob),(36, .slice ps.o ps.l.length ps.c),(37, .int .i64 (ps.l.length:Int)),(38, .int .i64 (z.1:Int))]) (fun z=>[old w S,md m,bxR X.p,pkR ps] ++maB m X true z.2.1 z.2.2 (ctOf m ps.l z.1).n) (fun z=>ps.l.length-z.1) (0,ts0,e0)
  rotate_left
  exact sb;exact tks;intro z hz K1 hK1;(refine Jn ?_)
  rotate_left
  ·exact⟨Nat.zero_le _,rfl,e1',by rw[hn0,e2,hk0]⟩
  obtain⟨q,us,e⟩:=z;obtain⟨hq0,hun,hI,hA⟩:=hz;dsimp only at hq0 hun hI hA hK1⊢
  by_cases hq:q<ps.l.length
  ·obtain⟨tq,q1,htq⟩:∃tq q1,ps.l.getD q default=(tq,q1):=⟨_,_,rfl⟩;have hsn:=ctOf_succ m ps.l hq
   repeat(refine Jy ?_;try first|intro ao cap|intro b)
   rw[htq];rw[htq]at hsn;obtain⟨C1,hC1⟩:∃C,C=ctOf m ps.l (q+1):=⟨_,rfl⟩;rw[←hC1]at hsn;generalize ctOf m ps.l q=C at *;rw[←hA]at hsn;have hsp:=pickB_is m hC X us e C.n hI (by omega) true (by rw[hun];exact hK) tq q1;generalize Vm.pick m.mdl true (maA us e C.n) (tq,q1)=R at *;(refine Jc ?_;refine OpT.call0_ (spec:=hsp) (r:=(fun w=>Reads.md (tk) (Reads.any (tk) (bxR_excl X.p) .nil))) (k:=?_);intro s hs;(refine Jn ?_));obtain⟨us',e'⟩:=s;obtain⟨g1,g2,g3⟩:=hs;dsimp only at g1 g2 g3⊢
   repeat(refine Jy ?_;try first|intro ao cap|intro b)
   have a2:R.2.n=(ctOf m ps.l (q+1)).n:=by rw[←hC1,hsn]
   rw[a2];rw[a2]at g1 g3;refine End.round0_ hK1 (q+1,us',e') ?_ ?_
   ·exact⟨by dsimp only;omega,by dsimp only;omega,g1,by dsimp only;rw[g3,←hC1,hsn]⟩
   ·dsimp only;omega
  ·obtain rfl:q=ps.l.length:=by omega
   clear hK1;have hce:=ctOf_all m ps.l;rw[hce]at hA;have hlog:e.ev=(Vm.picks m.mdl true ps.l (Vm.Ma.init m.mdl)).2.bs.log:=by rw[←hA];rfl
   apply Cod.imp (fun w hm=>tell_out y10 (tk) hm);(refine Jn ?_)
   repeat(refine Jy ?_;try first|intro ao cap|intro b)
   (refine End.done2_ ((⟨e.oo,e.oc,e.ev⟩:TrL)) (he:=Jv) (hp:=?_));rw[if_pos rfl];exact hlog
end
section
attribute [local irreducible] Run Cod End OpT Still RunQ RunS RunT Fn PutOk
attribute [local irreducible] Ver.verify Vm.wrong Vm.picks
theorem ct_told(m:ML)(ps:List (Int×Int))(k:Nat):Vm.Told (ctOf m ps k) (ckOf m ps k).2:=by
 unfold ctOf ckOf;exact Vm.Told.picks _ ⟨rfl,rfl,rfl⟩
theorem ct_log(m:ML)(ps:List (Int×Int)){k:Nat}(hk:k<ps.length):(ctOf m ps (k+1)).bs.log=(ctOf m ps k).bs.log ++(Vm.pe m.mdl (ckOf m ps k).2 (ps.getD k default)).map (fun e=>((ps.getD k default).1.toNat,e)):=by
 rw[ctOf_succ m ps hk];exact(ct_told m ps k).pick_log _
theorem ct_few{m:ML}{T:Nat→Int→Option Ver.Shape}(hC:Vm.Certs m.mdl T)(ps:List (Int×Int))(k:Nat):(ctOf m ps k).bs.log.length≤80000:=by
 have h:(ctOf m ps k).Ok m.mdl T:=by
  unfold ctOf;exact Vm.picks_ok' hC true _ (Vm.Ma.Ok.init hC)
 have h1:=h.log;have h2:=h.n;omega
abbrev tagd(k:Nat)(l:List Vm.Ev):List (Nat×Vm.Ev):=l.map fun e=>(k,e)
theorem tagd_succ(k:Nat){l:List Vm.Ev}{i:Nat}(hi:i<l.length):tagd k (l.take i) ++[(k,l.getD i default)]=tagd k (l.take (i+1)):=by
 unfold tagd;rw[Jp hi,Jq,Jd,Je hi];rfl
theorem logs_set{us:List RkL}{k:Nat}{t:RkL}(ht:t.log=[])(h:∀j,j<us.length→j≠k→(us.getD j default).log=[]):∀j,j<(us.set k t).length→((us.set k t).getD j default).log=[]:=fun j hj=>by
 rw[Ji]at hj;simp only[Jd,List.getElem?_set]
 by_cases e:k=j
 ·subst e;rw[if_pos rfl,if_pos hj];exact ht
 ·rw[if_neg e];have:=h j hj (fun h=>e h.symm);rwa [Jd]at this
theorem al_clear{m:ML}{T:Nat→Int→Option Ver.Shape}{x:AlP}{us:List RkL}{e:List Rw}{n k:Nat}(h:AlIs m T x us e n)(hk:k<us.length):AlIs m T x (us.set k {us.getD k default with lo:=none,lc:=0,log:=[]}) e n∧alA (us.set k {us.getD k default with lo:=none,lc:=0,log:=[]}) e n=alA us e n:=by
 have htk:({us.getD k default with lo:=none,lc:=0,log:=[]}:RkL).tk=(us.getD k default).tk:=rfl;have hA:alA (us.set k {us.getD k default with lo:=none,lc:=0,log:=[]}) e n=alA us e n:=by
  simp only[alA,rk_set_tk,htk,Vm.Ma.mk.injEq,and_true];refine List.ext_getElem (by simp) fun j h1 h2=>?_
  simp only[Jf]at h2;rw[List.getElem_set]
  split
  ·rename_i e
   subst e;rw[Jd,Je h2];simp
  ·rfl
 have hm:=rk_mem hk;refine⟨⟨tbs_set h.tbs hk rfl,fun y hy=>?_,h.bx,by rw[hA];exact h.ok,fun y hy=>?_⟩,hA⟩
 ·rcases List.mem_or_eq_of_mem_set hy with hy|rfl
  ·exact h.wf y hy
  ·exact⟨(h.wf _ hm).now,(h.wf _ hm).few,(h.wf _ hm).st⟩
 ·rcases List.mem_or_eq_of_mem_set hy with hy|rfl
  ·exact h.log y hy
  ·exact Nat.zero_le _
set_option maxHeartbeats 2000000 in
theorem trace10_is(m:ML)(hwf:m.Wf)(ps:PkL):Fn Tryz.prog 6 #[m.val,ps.val] [md m,pkR ps] [] (σ:=TrL) (TrIs m ps.l) (fun r=> .tuple #[.slice r.o r.l.length r.c, .int .i64 (Vm.wrong m.mdl ps.l.length)]) TrL.mem:=by
 refine Fn.enter (args:=[m.val,ps.val]) Tryz.func6 rfl _ Tryz.ntmps6 rfl (by simp[md_excl,rd_excl]) (fun w S=>?_);(refine Jn ?_);obtain⟨W,hW⟩:∃W,W=Vm.wrong m.mdl ps.l.length:=⟨_,rfl⟩;unfold TrIs;rw[←hW]
 repeat(refine Jy ?_;try first|intro ao cap|intro b)
 (refine JQ (wrong10_is m hwf ps) ?_;intro s hs;(refine Jn ?_));rw[←hW]
 by_cases h0:¬W=0
 ·repeat(refine Jy ?_;try first|intro ao cap|intro b)
  apply End.imp (fun w hm=>hm.nilArr 57 evC);(refine End.done2_ ((⟨none,0,[]⟩:TrL)) (he:=Jv) (hp:=?_));rw[if_neg h0]
 have h0:=Classical.not_not.1 h0;subst h0;obtain⟨hv,hp4⟩:=wrong_zero hW.symm;have hF:=formed (Ver.verify_iff.1 hv).form;have hu30:=hF.units;have hb30:=hF.boxes;obtain⟨T,hC⟩:=certs_ml hwf hv
 repeat(refine Jy ?_;try first|intro ao cap|intro b)
 (refine JQ (new10_is m hb30 hu30 (fun k hk=>(head_ok (hF.head k hk)).1)) ?_;intro s hs;(refine Jn ?_));obtain⟨e1,e2⟩:=nw_is hC hv hs;have hn:=nw_len hs hu30;have hlog0:∀j,j<s.ts.length→(s.ts.getD j default).log=[]:=fun j hj=>(hs.wf _ (rk_mem hj)).2
 have hk0:=ckOf_zero m ps.l;obtain⟨n0,hn0'⟩:∃n,n=(ckOf m ps.l 0).2.n:=⟨_,rfl⟩;have hn0:n0=0:=by rw[hn0',hk0];rfl
 apply Run.imp' (fun w hm=>nw_ma s hn0 (tks) hm);(refine Jn ?_);obtain⟨x,hx⟩:∃x,x=s.pl m:=⟨_,rfl⟩;obtain⟨ts0,ht0⟩:∃x,x=s.ts:=⟨_,rfl⟩;obtain⟨e0,he0⟩:∃x,x=nulls m.bx.length:=⟨_,rfl⟩;have hxb:s.ab=x.ab:=by rw[hx];rfl
 rw[←hx]at e1;rw[←ht0,←he0]at e1 e2;rw[←ht0]at hn hlog0;rw[hxb,←hx,←ht0,←he0];clear hx ht0 he0 hxb hs s;subst hn0'
 repeat(refine Jy ?_;try first|intro ao cap|intro b)
 have hl0:(ctOf m ps.l 0).bs.log=[]:=by rw[ctOf_zero];rfl
 apply Cod.imp (fun w hm=>hm.nilArr 57 evC);refine Cod.only ((fun z=>[old w S,md m,wxR x.p,pkR ps,arr z.2.2.2.1 z.2.2.2.2.2.length z.2.2.2.2.1 57 evC z.2.2.2.2.2] ++alM m x z.2.1 z.2.2.1 (ckOf m ps.l z.1).2.n) (0,ts0,e0,none,0,[])) (tks) ?_;apply Cod.loop (σ:=Nat×List RkL×List Rw×Option Addr×Nat×List (Nat×Vm.Ev)) (fun z=>z.1≤ps.l.length∧z.2.1.length≤30∧AlIs m T x z.2.1 z.2.2.1 (ckOf m ps.l z.1).2.n∧alA z.2.1 z.2.2.1 (ckOf m ps.l z.1).2.n=(ckOf m ps.l z.1).2∧(∀j,j<z.2.1.length→(z.2.1.getD j default).log=[])∧z.2.2.2.2.2=(ctOf m ps.l z.1).bs.log) (fun z=>[(7,ptr x.ab),(8, .slice z.2.2.2.1 z.2.2.2.2.2.length z.2.2.2.2.1),(22, .slice ps.o ps.l.length ps.c),(23, .int .i64 (ps.l.length:Int)),(24, .int .i64 (z.1:Int))]) (fun z=>[old w S,md m,wxR x.p,pkR ps,arr z.2.2.2.1 z.2.2.2.2.2.length z.2.2.2.2.1 57 evC z.2.2.2.2.2] ++alM m x z.2.1 z.2.2.1 (ckOf m ps.l z.1).2.n) (fun z=>ps.l.length-z.1) (0,ts0,e0,none,0,[])
 rotate_left
 exact sb;exact tks;intro z hz K1 hK1;(refine Jn ?_)
 rotate_left
 ·exact⟨Nat.zero_le _,hn,by rw[hn0];exact e1,by rw[hn0,e2,hk0],hlog0,hl0.symm⟩
 obtain⟨q,us,e,ao,ac,L⟩:=z;obtain⟨hq0,hun,hI,hA,hlg,hL⟩:=hz;dsimp only at hq0 hun hI hA hlg hL hK1⊢;have hLf:L.length≤80000:=by rw[hL];exact ct_few hC ps.l q
 by_cases hq:q<ps.l.length
 ·obtain⟨tq,q1,htq⟩:∃tq q1,ps.l.getD q default=(tq,q1):=⟨_,_,rfl⟩;have hsn:=ckOf_succ m ps.l hq;have hln:=ct_log m ps.l hq
  repeat(refine Jy ?_;try first|intro ao cap|intro b)
  obtain⟨pb,rfl⟩:∃x,x=b:=⟨_,rfl⟩;rw[htq];rw[htq]at hsn hln;rw[←hL]at hln;obtain⟨C1,hC1⟩:∃C,C=ckOf m ps.l (q+1):=⟨_,rfl⟩;rw[←hC1]at hsn;generalize ckOf m ps.l q=C at *;rw[←hA]at hsn hln;have hsp:=pick10_is m hC x us e C.2.n hI hun tq q1;obtain⟨P,hP⟩:∃P:List RkL→List Rw→Prop,P=PkIs m T x us e C.2.n (tq,q1):=⟨_,rfl⟩;rw[←hP]at hsp;have hPk:∀a c,P a c→AlIs m T x a c (Vm.pick m.mdl false (alA us e C.2.n) (tq,q1)).2.n∧a.length=us.length∧alA a c (Vm.pick m.mdl false (alA us e C.2.n) (tq,q1)).2.n=(Vm.pick m.mdl false (alA us e C.2.n) (tq,q1)).2∧∀j,j<us.length→(a.getD j default).log=if(j:Int)=tq then Vm.pe m.mdl (alA us e C.2.n) (tq,q1)else []:=fun a c h=>by
   rw[hP]at h;refine⟨h.is,h.len,h.ma,fun j hj=>?_⟩;rw[h.log j hj,hlg j hj,Jk]
  have hnone:=fun h=>Vm.pe_none (M:=m.mdl) (c:=alA us e C.2.n) (p:=(tq,q1)) h
  have hin:(Vm.pick m.mdl false (alA us e C.2.n) (tq,q1)).1.1=0→0≤tq∧tq<(us.length:Int):=fun h=>by
   unfold Vm.pick at h
   by_cases hr:tq<0∨((alA us e C.2.n).ts.length:Int)≤tq
   ·rw[if_pos hr]at h;cases h
   ·have:(alA us e C.2.n).ts.length=us.length:=by simp[alA]
    omega
  clear hP;generalize Vm.pick m.mdl false (alA us e C.2.n) (tq,q1)=R at *;generalize Vm.pe m.mdl (alA us e C.2.n) (tq,q1)=V at *;(refine Jc ?_;refine OpT.call0_ (spec:=hsp) (r:=(fun w=>Reads.md (tk) (Reads.any (tk) (wxR_excl x.p) .nil))) (k:=?_);intro s hs;(refine Jn ?_));obtain⟨us',e'⟩:=s;obtain⟨g1,g2,g3,g4⟩:=hPk _ _ hs;dsimp only at g1 g2 g3 g4 hln⊢;have a2:R.2.n=(ckOf m ps.l (q+1)).2.n:=by rw[←hC1,hsn]
  rw[a2]at g1 g3⊢;have a3:alA us' e' (ckOf m ps.l (q+1)).2.n=(ckOf m ps.l (q+1)).2:=by rw[g3,←hC1,hsn]
  clear hsp hPk hs hsn hC1
  repeat(refine Jy ?_;try first|intro ao cap|intro b)
  (apply Run.op;exact rfl;refine OpT.val_ (h:=by exact Still.fieldI rfl rfl rfl rfl rfl) (k:=?_))
  by_cases hr0:¬R.1.1=0
  ·have hV:=hnone hr0;subst hV
   repeat(refine Jy ?_;try first|intro ao cap|intro b)
   refine End.round0_ hK1 (q+1,us',e',ao,ac,L) ?_ ?_
   ·exact⟨by dsimp only;omega,by dsimp only;omega,g1,a3,fun j hj=>by rw[g4 j (by dsimp only at hj;omega)];split<;>rfl,by dsimp only;rw[hln];simp⟩
   ·dsimp only;omega
  ·have hr0:=Classical.not_not.1 hr0;obtain⟨i1,i2⟩:=hin hr0;obtain⟨k,rfl⟩:=JI i1;have hk:k<us'.length:=by omega
   rw[Jj]at hln;obtain⟨t,ht⟩:∃t,t=us'.getD k default:=⟨_,rfl⟩;have htl:t.log=V:=by rw[ht,g4 k (by omega),if_pos rfl]
   have hoth:∀j,j<us'.length→j≠k→(us'.getD j default).log=[]:=fun j hj hne=>by rw[g4 j (by omega),if_neg (fun h=>hne (by omega))]
   have htb:x.tbs.length=us'.length:=by rw[←g1.tbs,Jf]
   have htbk:x.tbs.getD k default=t.tb:=by rw[ht];exact rk_tbs g1.tbs hk
   have hVl:V.length≤40000:=by
    rw[←htl];have h1:=g1.log t (by rw[ht];exact rk_mem hk);have h2:=g1.ok.n;dsimp only at h2;omega
   have htl2:t.log.length≤40000:=by rw[htl];exact hVl
   obtain⟨b1,b2⟩:=al_clear (m:=m) (T:=T) (x:=x) g1 hk;rw[←ht]at b1 b2;apply Run.imp' (fun w hm=>by have:=Mem.rkOut (k:=k) hm (tk) hk;rw[←ht]at this;exact this);(refine Jn ?_)
   repeat(refine Jy ?_;try first|intro ao cap|intro b)
   rw[htbk]
   repeat(refine Jy ?_;try first|intro ao cap|intro b)
   refine Cod.only ((fun z=>[old w S,md m,wxR x.p,pkR ps,blk pb [.int .i64 (k:Int), .int .i64 q1] 67,arr z.2.1 z.2.2.2.length z.2.2.1 57 evC z.2.2.2,blk x.ab (alC x.to x.tbs.length x.tc x.p.bb (ckOf m ps.l (q+1)).2.n) 76,arr x.to x.tbs.length x.tc 72 ptrC x.tbs,wxM x.p e',rksM m (us'.eraseIdx k)] ++rkL m t) (0,ao,ac,L)) (tks) ?_;apply Cod.loop (σ:=Nat×Option Addr×Nat×List (Nat×Vm.Ev)) (fun z=>z.1≤t.log.length∧z.2.2.2=L ++tagd k (t.log.take z.1)) (fun z=>[(7,ptr x.ab),(8, .slice z.2.1 z.2.2.2.length z.2.2.1),(10,ptr pb),(11,ptr t.tb),(22, .slice ps.o ps.l.length ps.c),(23, .int .i64 (ps.l.length:Int)),(24, .int .i64 (q:Int)),(44, .slice t.lo t.log.length t.lc),(45, .int .i64 (t.log.length:Int)),(46, .int .i64 (z.1:Int))]) (fun z=>[old w S,md m,wxR x.p,pkR ps,blk pb [.int .i64 (k:Int), .int .i64 q1] 67,arr z.2.1 z.2.2.2.length z.2.2.1 57 evC z.2.2.2,blk x.ab (alC x.to x.tbs.length x.tc x.p.bb (ckOf m ps.l (q+1)).2.n) 76,arr x.to x.tbs.length x.tc 72 ptrC x.tbs,wxM x.p e',rksM m (us'.eraseIdx k)] ++rkL m t) (fun z=>t.log.length-z.1) (0,ao,ac,L)
   rotate_left
   exact sb;exact tks;intro z hz K4 hK4;(refine Jn ?_)
   rotate_left
   ·exact⟨Nat.zero_le _,by simp⟩
   obtain⟨i,bo,bc,L'⟩:=z;obtain⟨z1,z2⟩:=hz;dsimp only at z1 z2 hK4⊢;have hLl:L'.length≤120000:=by have:=congrArg List.length htl;rw[z2,Jl,Jf,List.length_take];omega
   by_cases hi:i<t.log.length
   ·have hsn:=tagd_succ k hi
    repeat(refine Jy ?_;try first|intro ao cap|intro b)
    (apply Run.op;exact rfl;refine OpT.append1_ (a:=((k,t.log.getD i default):Nat×Vm.Ev)) (k:=?_);intro ao cap;(refine Jn ?_))
    repeat(refine Jy ?_;try first|intro ao cap|intro b)
    have hle:(L' ++[(k,t.log.getD i default)]).length=L'.length+1:=by simp
    rw[←hle];have hLs:L' ++[(k,t.log.getD i default)]=L ++tagd k (t.log.take (i+1)):=by rw[z2,Jt,hsn]
    refine End.round0_ hK4 (i+1,ao,cap,L' ++[(k,t.log.getD i default)]) ?_ ?_
    ·exact⟨by dsimp only;omega,hLs⟩
    ·dsimp only;omega
   ·obtain rfl:i=t.log.length:=by omega
    clear hK4;rw[List.take_length,htl,←hln]at z2
    repeat(refine Jy ?_;try first|intro ao cap|intro b)
    apply End.imp (fun w hm=>hm.nilArr 57 revC);apply End.imp (fun w hm=>Mem.rkIn (t:=({t with lo:=none,lc:=0,log:=[]}:RkL)) hm (tk) (tks) hk);refine End.round0_ hK1 (q+1,us'.set k {t with lo:=none,lc:=0,log:=[]},e',bo,bc,L') ?_ ?_
    ·exact⟨by dsimp only;omega,by simp;omega,b1,b2.trans a3,logs_set rfl hoth,z2⟩
    ·dsimp only;omega
 ·obtain rfl:q=ps.l.length:=by omega
  clear hK1;have hce:=ctOf_all m ps.l;rw[hce]at hL
  repeat(refine Jy ?_;try first|intro ao cap|intro b)
  (refine End.done2_ ((⟨ao,ac,L⟩:TrL)) (he:=Jv) (hp:=?_));rw[if_pos rfl];exact hL
end
section
abbrev evV(e:Nat×Vm.Ev):Value:= .agg #[.int .i64 (e.1:Int), .int .i64 e.2.1, .int .i64 e.2.2.1, .int .i64 e.2.2.2]
theorem run_evIn(x y:Nat×Vm.Ev)(w:World):(Op.equalIn 10000 57 (evV x) (evV y)).run Tryz.prog w= .ok (decide (x=y)) w:=by
 have u3:=Tryz.underlying3;have a3:=Tryz.isAgg3;have z3:=Tryz.sizeOf3;have u4:=Tryz.underlying2;have a4:=Tryz.isAgg2;have hS:Tryz.prog.underlying 57=some (.struct (Tryz.prog.fieldsOf 57)):=by kernel_rfl
 have hp:Tryz.prog.stoodInHeld 57=false:=by kernel_rfl
 obtain⟨a,b,c,d⟩:=x;obtain⟨a',b',c',d'⟩:=y;rw[show(10000:Nat)=9999+1 from rfl,run_equalIn_agg w 9999 57 _ _ hS hp];simp only[Program.fieldsOf,Tryz.underlying57]
 go_simp
 by_cases h1:a=a'
 ·by_cases h2:b=b'<;>by_cases h3:c=c'<;>by_cases h4:d=d'<;>simp[h1,h2,h3,h4]
 ·have h1':¬((a:Int)=(a':Int)):=by omega
  simp[h1,h1']
section
variable{N:Nat}{E:Env}{L:List Chunk}{dst:Option Tmp}{ty:TypeId}{pos:String}{aft:Array Edge}{g:Option (Nat×Bool)}
theorem Still.neqEv{x y:Operand}{a b:Nat×Vm.Ev}{v v':Value}{r:Bool}(hx:ev E x=some v)(hy:ev E y=some v')(h1:v=evV a)(h2:v'=evV b)(hr:(!decide (a=b))=r):Still Tryz.prog N ⟨dst, .binOp .neq 57 x y 57,ty,pos,aft,g⟩ E L (.bool r):=fun A w hs _=>by
 subst h1 h2 hr;have hg:=run_eqGuard_agg (P:=Tryz.prog) w .neq 57 x y (evC a).toArray (evC b).toArray (by kernel_rfl);simp only[evC]at hg;simp[execOp,hs.ev hx,hs.ev hy,hg,run_neq_struct,run_evIn]
end
abbrev TrL.val(r:TrL):Value:= .slice r.o r.l.length r.c
abbrev evR(r:TrL):Chunk:=rd r.o r.l.length r.c evC r.l
attribute [local irreducible] Run Cod End OpT Still RunQ RunS RunT Fn PutOk
theorem sameEv_is(s t:TrL)(h:s.l=t.l):Fn Tryz.prog 7 #[s.val,t.val] [evR s,evR t] [] (σ:=Unit) (fun _=>True) (fun _=> .bool true) (fun _=>[]):=by
 obtain⟨ao,ac,l⟩:=s;obtain⟨bo,bc,l'⟩:=t;dsimp only at h⊢;subst h;refine JE [.slice ao l.length ac, .slice bo l.length bc] Tryz.func7 Tryz.ntmps7 fun w S=>?_
 (refine Jn ?_);apply Cod.fact (l.length≤9223372036854775807) (fun w hm=>(rd_holds.1 (hm.has (c:=rd ao l.length ac evC l) (tk))).1.2.1);intro hn
 repeat(refine Jy ?_;try first|intro ao cap|intro b)
 refine Cod.only ((fun k=>[old w S,rd ao l.length ac evC l,rd bo l.length bc evC l]) 0) (tks) ?_;apply Cod.loop (σ:=Nat) (fun k=>k≤l.length) (fun k=>[(0, .slice ao l.length ac),(1, .slice bo l.length bc),(12, .int .i64 (l.length:Int)),(13, .int .i64 (k:Int))]) (fun k=>[old w S,rd ao l.length ac evC l,rd bo l.length bc evC l]) (fun k=>l.length-k) 0
 rotate_left
 exact sb;exact tks;intro k hk K1 hK1;(refine Jn ?_)
 rotate_left
 ·exact Nat.zero_le _
 by_cases hkn:k<l.length
 ·repeat(refine Jy ?_;try first|intro ao cap|intro b)
  refine RunQ.val_ (h:=by exact Still.neqEv (a:=l.getD k default) (b:=l.getD k default) (r:=false) rfl rfl rfl rfl (by simp)) (k:=?_)
  repeat(refine Jy ?_;try first|intro ao cap|intro b)
  refine End.round0_ hK1 (k+1) ?_ ?_
  ·omega
  ·omega
 ·repeat(refine Jy ?_;try first|intro ao cap|intro b)
  (refine End.done1_ (()) (he:=Jv) (hp:=?_));trivial
end
attribute [local irreducible] Run Cod End OpT Still RunQ RunS RunT Fn PutOk
attribute [local irreducible] Ver.verify Vm.wrong Vm.picks
theorem tr_eq{m:ML}{ps:List (Int×Int)}{a b:TrL}(ha:TrIs m ps a)(hb:TrIs m ps b):a.l=b.l:=by
 unfold TrIs at ha hb
 by_cases h1:Vm.wrong m.mdl ps.length=0
 ·rw[if_pos h1]at ha hb;rw[ha,hb]
 ·rw[if_neg h1]at ha hb;rw[ha,hb]
theorem traceTells_is(m:ML)(hwf:m.Wf)(ps:PkL):Fn Tryz.prog 3 #[m.val,ps.val] [md m,pkR ps] [] (σ:=Unit) (fun _=>True) (fun _=> .bool true) (fun _=>[]):=by
 refine Fn.enter (args:=[m.val,ps.val]) Tryz.func3 rfl _ Tryz.ntmps3 rfl (by simp[md_excl,rd_excl]) (fun w S=>?_);(refine Jn ?_)
 repeat(refine Jy ?_;try first|intro ao cap|intro b)
 (refine Jc ?_;refine OpT.call0_ (spec:=trace_is m hwf ps) (r:=(fun w=>Reads.md (tk) (Reads.rd (tk) .nil))) (k:=?_);intro s hs;(refine Jn ?_));obtain⟨r,rfl⟩:∃x,x=s:=⟨_,rfl⟩;have ha:=hs
 repeat(refine Jy ?_;try first|intro ao cap|intro b)
 (refine Jc ?_;refine OpT.call0_ (spec:=trace10_is m hwf ps) (r:=(fun w=>Reads.md (tk) (Reads.rd (tk) .nil))) (k:=?_);intro s hs;(refine Jn ?_));obtain⟨v,rfl⟩:∃x,x=s:=⟨_,rfl⟩;have hb:=hs;have he:=tr_eq ha hb;clear hs ha hb;generalize Vm.wrong m.mdl ps.l.length=W1 at *
 repeat(refine Jy ?_;try first|intro ao cap|intro b)
 (refine Jc ?_;refine OpT.call0_ (spec:=sameEv_is r v he) (r:=(fun w=>Reads.arr (tk) (Reads.arr (tk) .nil))) (k:=?_);intro s hs;(refine Jn ?_))
 repeat(refine Jy ?_;try first|intro ao cap|intro b)
 (refine End.done1_ (()) (he:=Jv) (hp:=?_));trivial
end Go.Proofs.YtjehflelkpacfaaGreat.Vw
