/- How all stands, of the document's machine: walked. -/
import Derived.Test.YtjehflelkpacfaaGreatM29
set_option linter.unusedVariables false
set_option linter.unusedSimpArgs false
set_option linter.unusedSectionVars false
set_option maxRecDepth 100000
namespace Go.Proofs.YtjehflelkpacfaaGreat.Vw
open Go.RowKit Go.Proofs.YtjehflelkpacfaaGreat.Img
attribute [local irreducible] Run Cod End OpT Still RunQ RunS RunT Fn PutOk
theorem al_looked{m:ML}{x:AlP}{ts:List RkL}{e:List Rw}{n k:Nat}(hk:k<ts.length)(hz:((ts.getD k default).rt (wxEnv m.mdl x.p) e).Wf):((alA ts e n).looked m.mdl).ts.getD k default=((((ts.getD k default).rt (wxEnv m.mdl x.p) e).look m).lay (ts.getD k default).tb).tk:=by
 have h1:=hz.look_two m;rw[RkL.rt_two,Vm.lookW]at h1;have h2:(((ts.getD k default).rt (wxEnv m.mdl x.p) e).look m).tk=(Vm.look (Vm.bxs m.mdl none) m.mdl ((ts.getD k default).tk,wxAbs e)).1:=congrArg (·.1) h1;refine Eq.trans ?_ h2.symm;unfold Vm.Ma.looked;rw[Jd,JU];simp only[alA,JU,Je hk,Option.map_some,JZ,Jd]
set_option maxHeartbeats 2000000 in
theorem world10_is(m:ML){T:Nat→Int→Option Ver.Shape}(hC:Vm.Certs m.mdl T)(x:AlP)(ts:List RkL)(e:List Rw)(n:Nat)(h:AlIs m T x ts e n)(hn:ts.length≤30):
  Fn Tryz.prog 21 #[ptr x.ab] [md m,wxR x.p] (alM m x ts e n) (σ:=WoL) (fun s=>s.Is ((alA ts e n).looked m.mdl)) (fun s=> .agg s.cells.toArray) WoL.mem:=by
 obtain⟨C,hC'⟩:∃C,C=(alA ts e n).looked m.mdl:=⟨_,rfl⟩;rw[←hC'];have htb:x.tbs.length=ts.length:=by rw[←h.tbs,Jf]
 have hCl:C.ts.length=ts.length:=by rw[hC'];simp[Vm.Ma.looked]
 have hcl:=h.bx.capsLen;refine JE [ptr x.ab] Tryz.func21 Tryz.ntmps21 fun w S=>?_
 (refine Jn ?_);apply Cod.imp (fun w hm=>Mem.wxOut hm (tk));(refine Jn ?_)
 repeat(refine Jy ?_;try first|intro ao cap|intro b)
 obtain⟨rb,rfl⟩:∃x,x=b:=⟨_,rfl⟩;apply Cod.draw 13 ([blk x.ab (alC x.to x.tbs.length x.tc x.p.bb n) 76,blk x.p.bb (wxV x.p) 97]) (by kernel_rfl) 14 rfl;refine JR 0 ?_;refine JR 1 ?_;refine JR 2 ?_;refine JR 3 ?_;refine JR 4 ?_;refine JR 5 ?_;refine JR 6 ?_;refine JR 7 ?_;refine JR 8 ?_;refine JR 9 ?_;refine JR 10 ?_;refine JR 11 ?_;(refine JT 12 ?_;(first|refine Jw ?_|(refine Jb ?_;intro b)|(refine Ja ?_;intro ao cap));refine JG ?_);(refine JT 13 ?_;(first|refine Jw ?_|(refine Jb ?_;intro b)|(refine Ja ?_;intro ao cap));refine JG ?_);obtain⟨wb,rfl⟩:∃x,x=b:=⟨_,rfl⟩;(apply RunT.done;kernel_rfl);apply End.imp (fun w hm=>Mem.wxIn (p:=x.p) (e:=e) hm (tks));(refine Jn ?_)
 repeat(refine Jy ?_;try first|intro ao cap|intro b)
 apply Cod.imp (fun w hm=>(hm.nilArr 102 enC).bagNil);refine Cod.only ((fun z=>old w S::md m::wxR x.p::blk rb [.slice none 0 0, .slice none 0 0, .int .i64 0] 36::blk wb [.slice z.2.1 z.1 z.2.2.1, .slice x.p.wo x.p.caps.length x.p.wc, .int .i64 (n:Int)] 36::arr z.2.1 z.1 z.2.2.1 102 enC z.2.2.2::bag (z.2.2.2.map enM)::[blk x.ab (alC x.to x.tbs.length x.tc x.p.bb n) 76,arr x.to x.tbs.length x.tc 72 ptrC x.tbs,wxM x.p e,rksM m (ts.drop z.1)]) (0,none,0,[])) (tks) ?_;apply Cod.loop (σ:=Nat×Option Addr×Nat×List EnL) (fun z=>z.1≤ts.length∧z.2.2.2.length=z.1∧z.2.2.2.map enOf=(C.ts.take z.1).map tkOf) (fun z=>[(0,ptr x.ab),(2,ptr rb),(3,ptr wb),(21, .slice x.to x.tbs.length x.tc),(22, .int .i64 (x.tbs.length:Int)),(23, .int .i64 (z.1:Int))]) (fun z=>old w S::md m::wxR x.p::blk rb [.slice none 0 0, .slice none 0 0, .int .i64 0] 36::blk wb [.slice z.2.1 z.1 z.2.2.1, .slice x.p.wo x.p.caps.length x.p.wc, .int .i64 (n:Int)] 36::arr z.2.1 z.1 z.2.2.1 102 enC z.2.2.2::bag (z.2.2.2.map enM)::[blk x.ab (alC x.to x.tbs.length x.tc x.p.bb n) 76,arr x.to x.tbs.length x.tc 72 ptrC x.tbs,wxM x.p e,rksM m (ts.drop z.1)]) (fun z=>ts.length-z.1) (0,none,0,[])
 rotate_left
 exact sb;exact tks;intro z hz K1 hK1;(refine Jn ?_)
 rotate_left
 ·exact⟨Nat.zero_le _,rfl,rfl⟩
 obtain⟨q,eo,ec,ends⟩:=z;obtain⟨hq0,he1,he2⟩:=hz;dsimp only at hq0 he1 he2 hK1⊢
 by_cases hq:q<ts.length
 ·obtain⟨t,ht⟩:∃t,t=ts.getD q default:=⟨_,rfl⟩;have htm:t∈ts:=by rw[ht];exact rk_mem hq
  have hz:=(h.wf t htm).rt (E:=wxEnv m.mdl x.p) h.bx;have hg:Vm.Good m.mdl T (KW m.mdl x.p) (t.rt (wxEnv m.mdl x.p) e).two:=h.ok.good _ (List.mem_map.2 ⟨t,htm,rfl⟩);have hCq:=al_looked (m:=m) (x:=x) (e:=e) (n:=n) hq (by rw[←ht];exact hz);rw[←hC',←ht]at hCq;have htbq:x.tbs.getD q default=t.tb:=by rw[ht];exact rk_tbs h.tbs hq
  apply Cod.imp (fun w hm=>by have:=Mem.rkNext (k:=q) hm (tk) hq;rw[←ht]at this;exact this);(refine Jn ?_)
  repeat(refine Jy ?_;try first|intro ao cap|intro b)
  rw[htbq]
  repeat(refine Jy ?_;try first|intro ao cap|intro b)
  (apply Run.op;exact rfl;refine OpT.val_ (h:=by exact Still.mkIface (t:=0) rfl rfl) (k:=?_));(refine Jc ?_;refine OpT.call0_ (spec:=look9_is (E:=wxEnv m.mdl x.p) t.tb m rfl (t.rt (wxEnv m.mdl x.p) e) hz (stand_good hC hg)) (r:=(fun w=>Reads.md (tk) (Reads.any (tk) (wxR_excl x.p) .nil))) (k:=?_);intro s hs;(refine Jn ?_));obtain⟨y,hy⟩:∃y,y=(t.rt (wxEnv m.mdl x.p) e).look m:=⟨_,rfl⟩;have hye:y.e=e:=by rw[hy];exact look_e _ m
  rw[←hy]at hCq⊢
  repeat(refine Jy ?_;try first|intro ao cap|intro b)
  apply Cod.draw 22 ([blk wb [.slice eo q ec, .slice x.p.wo x.p.caps.length x.p.wc, .int .i64 (n:Int)] 36,rkM t.tb m y]) (by kernel_rfl) 23 rfl;refine JR 0 ?_;refine JR 1 ?_;refine JR 2 ?_;refine JR 3 ?_;refine JR 4 ?_;refine JR 5 ?_;refine JR 6 ?_;refine JR 7 ?_;refine JR 8 ?_;refine JR 9 ?_;refine JR 10 ?_;refine JR 11 ?_;refine JR 12 ?_;refine JR 13 ?_;refine JR 14 ?_;refine JR 15 ?_;refine JR 16 ?_;refine JR 17 ?_;refine JR 18 ?_;(refine JT 19 ?_;(first|refine Jw ?_|(refine Jb ?_;intro b)|(refine Ja ?_;intro ao cap));refine JG ?_);(refine JT 20 ?_;refine OpT.append1_ (a:=(⟨y.st,y.bx,y.tr,y.oo,y.oc,y.out⟩:EnL)) (k:=?_);intro ao cap;refine JG ?_;(refine Jn ?_));refine JR 21 ?_;(refine JT 22 ?_;(first|refine Jw ?_|(refine Jb ?_;intro b)|(refine Ja ?_;intro ao cap));refine JG ?_);(apply RunT.done;kernel_rfl)
  repeat(refine Jy ?_;try first|intro ao cap|intro b)
  obtain⟨X,hX⟩:∃X:EnL,X=⟨y.st,y.bx,y.tr,y.oo,y.oc,y.out⟩:=⟨_,rfl⟩;have hXe:enOf X=tkOf (C.ts.getD q default):=by rw[hCq,hX];rfl
  apply End.imp (fun w hm=>Mem.bagAdd (cs:=ends.map enM) (ds:=[enM X]) hm (tk) (by rw[hX];(repeat(first|exact Takes.nil|exact Take.head|apply Take.tail|apply Takes.cons))) (fun c hc=>by simp at hc;subst hc;exact arr_excl));have hmp:ends.map enM ++[enM X]=(ends ++[X]).map enM:=by simp
  rw[hmp,←hX];show End _ _ _ _ _;rw[hye];refine End.round0_ hK1 (q+1,ao,cap,ends ++[X]) ?_ ?_
  ·refine⟨by dsimp only;omega,by simp[he1],?_⟩;have hqC:q<C.ts.length:=by omega
   dsimp only;rw[Jq,he2,Jp hqC,Jq];congr 1;simp only[List.map_cons,List.map_nil];rw[hXe,Jd,Je hqC];rfl
  ·dsimp only;omega
 ·obtain rfl:q=ts.length:=by omega
  clear hK1;have hel:e.length=x.p.caps.length:=by rw[hcl];exact h.bx.len
  apply Cod.imp (fun w hm=>Mem.wxOut hm (tk));(refine Jn ?_)
  repeat(refine Jy ?_;try first|intro ao cap|intro b)
  obtain⟨R,hR⟩:∃R:WoL,R=⟨eo,ec,ends,x.p.wo,x.p.wc,e,n⟩:=⟨_,rfl⟩;refine End.doneC1_ R (he:=by rw[hR];simp only[WoL.cells,he1,hel]) (hF:=by(subst hR;simp only[WoL.mem,he1,hel];exact tks)) (hp:=?_) (hx:=by subst hR;simp[arr_excl,bag_excl]);subst hR;refine⟨?_,?_,?_⟩
  ·dsimp only;rw[he2,List.take_of_length_le (by omega)]
  ·dsimp only;rw[hC'];rfl
  ·dsimp only;rw[hC'];rfl
end Go.Proofs.YtjehflelkpacfaaGreat.Vw
namespace Go.Proofs.YtjehflelkpacfaaGreat.Rf7
open ImgM Ver Opt
def lt1(t:Int):UInt8:=if t=1 then 110 else if t=2 then 98 else UInt8.ofNat (55+t).toNat
def VT(M:Mdl)(t:Int):Prop:=t=1∨t=2∨handle M t=true
theorem handle_iff{M:Mdl}{t:Int}:handle M t=true↔10≤t∧t-10<(M.units.length:Int)∧(M.units.getD (t-10).toNat default).kind=3:=by
 unfold handle isUnit;simp only[JX,JV];constructor
 ·rintro⟨h1,⟨-,h2⟩,h3⟩;exact⟨h1,h2,h3⟩
 ·rintro⟨h1,h2,h3⟩;exact⟨h1,⟨by omega,h2⟩,h3⟩
theorem VT.rng{M:Mdl}(h30:M.units.length≤30){t:Int}(h:VT M t):t=1∨t=2∨(10≤t∧t<40):=by
 rcases h with h|h|h
 ·exact .inl h
 ·exact .inr (.inl h)
 ·have:=handle_iff.1 h;omega
theorem lt1_nat{t:Int}(h:10≤t∧t<40):(lt1 t).toNat=(55+t).toNat:=by
 unfold lt1;rw[if_neg (by omega),if_neg (by omega)];rw[UInt8.toNat_ofNat'];omega
theorem lt1_val{t:Int}(h:t=1∨t=2∨(10≤t∧t<40)):((lt1 t).toNat:Int)=if t=1 then 110 else if t=2 then 98 else 55+t:=by
 rcases h with rfl|rfl|h
 ·rfl
 ·rfl
 ·rw[lt1_nat h,if_neg (by omega),if_neg (by omega)];omega
theorem lt1_inj{t t':Int}(h:t=1∨t=2∨(10≤t∧t<40))(h':t'=1∨t'=2∨(10≤t'∧t'<40))(e:lt1 t=lt1 t'):t=t':=by
 have e1:=lt1_val h;have e2:=lt1_val h';rw[e,e2]at e1
 repeat' split at e1
 all_goals omega
theorem lt1_ne{t:Int}(h:t=1∨t=2∨(10≤t∧t<40)):lt1 t≠42∧lt1 t≠63∧lt1 t≠0:=by
 have e1:=lt1_val h;refine⟨fun e=>?_,fun e=>?_,fun e=>?_⟩<;>(rw[e]at e1;simp at e1;repeat' split at e1)<;>omega
theorem lt1_pl{t:Int}(h:t=1∨t=2∨(10≤t∧t<40)):(lt1 t=110↔t=1)∧(lt1 t=98↔t=2):=by
 refine⟨⟨fun e=>?_,fun e=>by rw[e];rfl⟩,⟨fun e=>?_,fun e=>by rw[e];rfl⟩⟩
 ·exact lt1_inj h (.inl rfl) e
 ·exact lt1_inj h (.inr (.inl rfl)) e
theorem map_inj{l l':List Int}(h:∀t∈l,t=1∨t=2∨(10≤t∧t<40))(h':∀t∈l',t=1∨t=2∨(10≤t∧t<40))(e:l.map lt1=l'.map lt1):l=l':=by
 induction l generalizing l' with
 |nil=>
  cases l' with
  |nil=>rfl
  |cons a r=>simp at e
 |cons a r ih=>
  cases l' with
  |nil=>simp at e
  |cons b s=>
   simp only[List.map_cons,List.cons.injEq]at e;rw[lt1_inj (h a List.mem_cons_self) (h' b List.mem_cons_self) e.1,ih (fun t ht=>h t (List.mem_cons_of_mem _ ht)) (fun t ht=>h' t (List.mem_cons_of_mem _ ht)) e.2]
def tk7:List UInt8→UInt8→List UInt8→List UInt8×Int
 |[],_,st=>(st,0)
 |x::w,last,st=>
  if st.length=0 then([],12)
  else if x=42 then tk7 w last (st.take (st.length-1))
  else if x=63 then(if(st.getD (st.length-1) 0≠110∧st.getD (st.length-1) 0≠98)∨(last≠0∧last≠st.getD (st.length-1) 0)then([],9)else tk7 w (st.getD (st.length-1) 0) (st.take (st.length-1)))
  else if st.getD (st.length-1) 0≠x then([],9)else tk7 w last (st.take (st.length-1))
def take7(st want:List UInt8):List UInt8×Int:=tk7 want.reverse 0 st
def par7(M:Mdl)(k:Int):List UInt8:=((M.units.getD k.toNat default).locals.take (M.units.getD k.toNat default).params.toNat).map lt1
def res7(M:Mdl)(k:Int):UInt8:=lt1 (M.units.getD k.toNat default).result
def needs7(M:Mdl)(u:Unt)(i:Ins):List UInt8×List UInt8:=
 if i.op=1 then([],[110])
 else if i.op=2 then([],[98])
 else if i.op=3 then([],[lt1 (u.locals.getD i.a.toNat 0)])
 else if i.op=4 then([lt1 (u.locals.getD i.a.toNat 0)],[])
 else if i.op=5 then([42],[])
 else if i.op=6 then([110],[110])
 else if i.op=7 then([98],[98])
 else if i.op≤12 then([110,110],[110])
 else if i.op=13∨i.op=14 then([63,63],[98])
 else if i.op≤18 then([110,110],[98])
 else if i.op=19∨i.op=20 then([98,98],[98])
 else if i.op=22 then([98],[])
 else if i.op=23 then(par7 M i.a,[res7 M i.a])
 else if i.op=24 then([lt1 u.result],[])
 else if i.op=26 then([lt1 (M.boxes.getD i.a.toNat default).1],[])
 else if i.op=27 then([],[lt1 (M.boxes.getD i.a.toNat default).1])
 else if i.op=28 then([63],[])
 else if i.op=29 then(par7 M i.a,[lt1 (10+i.a)])
 else if i.op=31 then([lt1 u.result],[lt1 u.takes])
 else([],[])
def want7(M:Mdl)(u:Unt)(i:Ins)(st:List UInt8):Int×List UInt8×List UInt8:=
 if i.op=30∨i.op=32 then
  let n:=if i.op=30 then 2 else 1
  if st.length<n then(12,[],[])
  else if st.getD (st.length-n) 0=110∨st.getD (st.length-n) 0=98 then(9,[],[])
  else
   let x:=M.units.getD ((st.getD (st.length-n) 0).toNat-65) default
   if i.op=30 then(0,[st.getD (st.length-n) 0,lt1 x.takes],[lt1 x.result])else(0,[st.getD (st.length-n) 0],[98])
 else(0,needs7 M u i)
def core7(M:Mdl)(u:Unt)(i:Ins)(st:List UInt8)(h:List Bool):Int×List UInt8×List Bool:=
 if i.op=3∧h.getD i.a.toNat false=false then(11,[],[])
 else if(i.op=24∧u.kind≠2)∨(i.op=25∧u.kind=2)∨(i.op=31∧u.kind≠3)then(8,[],[])
 else if(want7 M u i st).1≠0 then((want7 M u i st).1,[],[])
 else if(take7 st (want7 M u i st).2.1).2≠0 then((take7 st (want7 M u i st).2.1).2,[],[])
 else if 300<((take7 st (want7 M u i st).2.1).1 ++(want7 M u i st).2.2).length then(4,[],[])
 else if(i.op=24∨i.op=25)∧((take7 st (want7 M u i st).2.1).1 ++(want7 M u i st).2.2).length≠0 then(12,[],[])
 else(0,(take7 st (want7 M u i st).2.1).1 ++(want7 M u i st).2.2,if i.op=4 then h.set i.a.toNat true else h)
section
variable{M:Mdl}(h30:M.units.length≤30)
theorem err_want1{t:Int}{f:Flow}(h:f.err≠0):(want1 t f).err=f.err:=(want1_kept t f).err h
theorem err_want{l:List Int}{f:Flow}(h:f.err≠0):(want l f).err=f.err:=(want_kept l f).err h
theorem err_push{t:Int}{f:Flow}(h:f.err≠0):(push t f).err=f.err:=by
 unfold push
 split
 ·unfold fail;rw[if_neg h]
 ·rfl
theorem err_fail{e:Int}{f:Flow}(h:f.err≠0):fail e f=f:=by unfold fail;rw[if_neg h]
theorem map_last(st:List Int):(st.map lt1).getD ((st.map lt1).length-1) 0=if st.length=0 then 0 else lt1 (st.getD (st.length-1) 0):=by
 rw[Jf]
 by_cases h:st.length=0
 ·rw[if_pos h,List.eq_nil_of_length_eq_zero h];rfl
 ·rw[if_neg h,Jd,JU,Je (by omega),Jd,Je (by omega)];rfl
theorem getD_in{st:List Int}{k:Nat}(h:k<st.length):st.getD k 0∈st:=by
 rw[Jd,Je h];exact List.getElem_mem h
include h30 in
theorem pop_in{st:List Int}(hst:∀t∈st,VT M t)(hne:st.length≠0):st.getD (st.length-1) 0=1∨st.getD (st.length-1) 0=2∨(10≤st.getD (st.length-1) 0∧st.getD (st.length-1) 0<40):=(hst _ (getD_in (by omega))).rng h30
theorem pop_ok{f:Flow}(h:f.stack.length≠0):pop f=(f.stack.getD (f.stack.length-1) 0,{f with stack:=f.stack.take (f.stack.length-1)}):=by
 unfold pop;rw[if_neg h]
theorem pop_no{f:Flow}(h:f.stack.length=0):pop f=(0,fail 12 f):=by
 unfold pop;rw[if_pos h]
include h30 in
theorem want_tk:∀(r:List Int) (f:Flow) (last:UInt8),f.err=0→(∀t∈r,VT M t)→(∀t∈f.stack,VT M t)→
  tk7 (r.map lt1) last (f.stack.map lt1)=if(want r.reverse f).err=0 then((want r.reverse f).stack.map lt1,0)else([],(want r.reverse f).err)
 |[],f,last,he,hr,hs=>by
  show(f.stack.map lt1,0)=if f.err=0 then(f.stack.map lt1,0)else([],f.err);rw[if_pos he]
 |t::r,f,last,he,hr,hs=>by
  have hw:want (t::r).reverse f=want r.reverse (want1 t f):=by
   unfold want;rw[List.reverse_cons,List.foldr_append];rfl
  have ht:=(hr t List.mem_cons_self).rng h30;obtain⟨n1,n2,n3⟩:=lt1_ne ht;rw[hw,List.map_cons];unfold tk7;rw[Jf]
  by_cases h0:f.stack.length=0
  ·rw[if_pos h0];have h1:want1 t f=fail 12 f:=by
    unfold want1;rw[pop_no h0];dsimp only;rw[if_pos (by omega),err_fail (by unfold fail;rw[if_pos he];exact(by decide:(12:Int)≠0))]
   have h2:(want1 t f).err=12:=by rw[h1];unfold fail;rw[if_pos he]
   rw[err_want (by rw[h2];decide),h2,if_neg (by decide)]
  ·rw[if_neg h0,if_neg n1,if_neg n2];have hl:=map_last f.stack;rw[Jf,if_neg h0]at hl;have htop:=pop_in h30 hs h0;rw[hl]
   by_cases he2:f.stack.getD (f.stack.length-1) 0=t
   ·rw[he2,if_neg (fun h=>h rfl)];have h1:want1 t f={f with stack:=f.stack.take (f.stack.length-1)}:=by
     unfold want1;rw[pop_ok h0];dsimp only;rw[if_neg (fun h=>h he2)]
    rw[h1,←List.map_take];exact want_tk r {f with stack:=f.stack.take (f.stack.length-1)} last he (fun x hx=>hr x (List.mem_cons_of_mem _ hx)) (fun x hx=>hs x (List.mem_of_mem_take hx))
   ·rw[if_pos (fun h=>he2 (lt1_inj htop ht h))];have h1:want1 t f=fail 9 {f with stack:=f.stack.take (f.stack.length-1)}:=by
     unfold want1;rw[pop_ok h0];dsimp only;rw[if_pos he2]
    have h2:(want1 t f).err=9:=by rw[h1];unfold fail;rw[if_pos he]
    rw[err_want (by rw[h2];decide),h2,if_neg (by decide)]
include h30 in
theorem want_take{l:List Int}{f:Flow}(he:f.err=0)(hl:∀t∈l,VT M t)(hs:∀t∈f.stack,VT M t):
  take7 (f.stack.map lt1) (l.map lt1)=if(want l f).err=0 then((want l f).stack.map lt1,0)else([],(want l f).err):=by
 have:=want_tk h30 l.reverse f 0 he (fun t ht=>hl t (List.mem_reverse.1 ht)) hs;rw[List.reverse_reverse]at this;unfold take7;rw[←List.map_reverse];exact this
end
theorem tk7_nil(last:UInt8)(st:List UInt8):tk7 [] last st=(st,0):=rfl
theorem tk7_cons(x:UInt8)(w:List UInt8)(last:UInt8)(st:List UInt8):tk7 (x::w) last st=if st.length=0 then([],12)
  else if x=42 then tk7 w last (st.take (st.length-1))
  else if x=63 then(if(st.getD (st.length-1) 0≠110∧st.getD (st.length-1) 0≠98)∨(last≠0∧last≠st.getD (st.length-1) 0)then([],9)else tk7 w (st.getD (st.length-1) 0) (st.take (st.length-1)))
  else if st.getD (st.length-1) 0≠x then([],9)else tk7 w last (st.take (st.length-1)):=rfl
theorem take7_1(st:List UInt8)(x:UInt8):take7 st [x]=tk7 [x] 0 st:=rfl
theorem take7_2(st:List UInt8)(x y:UInt8):take7 st [x,y]=tk7 [y,x] 0 st:=rfl
theorem no0:¬((0:Int)≠0):=fun h=>h rfl
theorem yes12:(12:Int)≠0:=by decide
theorem yes9:(9:Int)≠0:=by decide
def out7(g:Flow):Int×List UInt8×List Bool:=if g.err=0 then(0,g.stack.map lt1,g.has)else(g.err,[],[])
def gen7(pre:Int)(w:Int×List UInt8×List UInt8)(fin:Bool)(h:List Bool)(st:List UInt8):Int×List UInt8×List Bool:=
 if pre≠0 then(pre,[],[])
 else if w.1≠0 then(w.1,[],[])
 else if(take7 st w.2.1).2≠0 then((take7 st w.2.1).2,[],[])
 else if 300<((take7 st w.2.1).1 ++w.2.2).length then(4,[],[])
 else if fin=true∧((take7 st w.2.1).1 ++w.2.2).length≠0 then(12,[],[])
 else(0,(take7 st w.2.1).1 ++w.2.2,h)
def pre7(u:Unt)(i:Ins)(h:List Bool):Int:=
 if i.op=3∧h.getD i.a.toNat false=false then 11
 else if(i.op=24∧u.kind≠2)∨(i.op=25∧u.kind=2)∨(i.op=31∧u.kind≠3)then 8
 else 0
theorem core_gen(M:Mdl)(u:Unt)(i:Ins)(st:List UInt8)(h:List Bool):core7 M u i st h=gen7 (pre7 u i h) (want7 M u i st) (decide (i.op=24∨i.op=25)) (if i.op=4 then h.set i.a.toNat true else h) st:=by
 unfold core7 gen7 pre7
 by_cases h1:i.op=3∧h.getD i.a.toNat false=false
 ·rw[if_pos h1,if_pos h1,if_pos (by decide)]
 rw[if_neg h1,if_neg h1]
 by_cases h2:(i.op=24∧u.kind≠2)∨(i.op=25∧u.kind=2)∨(i.op=31∧u.kind≠3)
 ·rw[if_pos h2,if_pos h2,if_pos (by decide)]
 rw[if_neg h2,if_neg h2,if_neg no0];simp only[JV]
structure UV(M:Mdl)(u:Unt):Prop where
 kind:u.kind=2∨u.kind=3∨u.kind=4
 loc:∀t∈u.locals,VT M t
 res:u.kind≠4→u.result=1∨u.result=2
 tak:u.kind=3→u.takes=1∨u.takes=2
theorem plain_iff{t:Int}:plain t=true↔t=1∨t=2:=by unfold plain;rw[Bool.or_eq_true,JV,JV]
theorem plain_no{t:Int}(h:¬plain t=false):t=1∨t=2:=plain_iff.1 (by simpa using h)
theorem uv_head{M:Mdl}{u:Unt}(h:Ver.head M u=0):UV M u:=by
 unfold Ver.head at h
 by_cases e1:u.kind≠2∧u.kind≠3∧u.kind≠4
 ·rw[if_pos e1]at h;cases h
 rw[if_neg e1]at h
 by_cases e2:200<u.locals.length∨u.params<0∨6<u.params∨(u.locals.length:Int)<u.params∨(u.kind=4∧0<u.params)
 ·rw[if_pos e2]at h;cases h
 rw[if_neg e2]at h
 by_cases e3:u.code.length<1∨4000<u.code.length
 ·rw[if_pos e3]at h;cases h
 rw[if_neg e3]at h
 by_cases e4:(u.kind≠4∧plain u.result=false)∨(u.kind=3∧plain u.takes=false)
 ·rw[if_pos e4]at h;cases h
 rw[if_neg e4]at h
 by_cases e5:u.locals.any (fun t=>!plain t&& !handle M t)=true
 ·rw[if_pos e5]at h;cases h
 refine⟨by omega,fun t ht=>?_,fun hk=>plain_no fun hp=>e4 (.inl ⟨hk,hp⟩),fun hk=>plain_no fun hp=>e4 (.inr ⟨hk,hp⟩)⟩;have e5:u.locals.any (fun t=>!plain t&& !handle M t)=false:=by simpa using e5
 rw[List.any_eq_false]at e5;have:=e5 t ht
 by_cases hp:plain t=true
 ·rcases plain_iff.1 hp with h|h
  ·exact .inl h
  ·exact .inr (.inl h)
 ·by_cases hh:handle M t=true
  ·exact .inr (.inr hh)
  ·exact absurd (by simp[hp,hh]) this
section
variable{M:Mdl}(h30:M.units.length≤30){u:Unt}{st:List Int}{h:List Bool}(hst:∀t∈st,VT M t)(hl:st.length≤300)
abbrev F0(st:List Int)(h:List Bool):Flow:=⟨[],[],st,h,0⟩
theorem out_err{g:Flow}{e:Int}(he:g.err=e)(h0:e≠0):out7 g=(e,[],[]):=by unfold out7;rw[he,if_neg h0]
theorem gen_pre{e:Int}{w:Int×List UInt8×List UInt8}{fin:Bool}{st:List UInt8}(h0:e≠0):gen7 e w fin h st=(e,[],[]):=by unfold gen7;rw[if_pos h0]
theorem want_le(l:List Int)(f:Flow):(want l f).stack.length≤f.stack.length:=(want_kept l f).len
theorem want_has(l:List Int)(f:Flow):(want l f).has=f.has:=(want_kept l f).same.has
include h30 hst in
theorem fin_push(l:List Int)(p:Int)(hp:∀t∈l,VT M t):gen7 0 (0,l.map lt1,[lt1 p]) false h (st.map lt1)=out7 (push p (want l (F0 st h))):=by
 have ht:=want_take (f:=F0 st h) h30 rfl hp hst;have hh:=want_has l (F0 st h);unfold gen7;rw[if_neg (fun h=>h rfl),if_neg (fun h=>h rfl)];dsimp only;dsimp only at ht;rw[ht];generalize want l (F0 st h)=g at *
 by_cases he:g.err=0
 ·rw[if_pos he,if_neg (fun h=>h rfl)];dsimp only;rw[Jl,Jf,List.length_singleton]
  by_cases h3:300<g.stack.length+1
  ·rw[if_pos h3];refine(out_err ?_ (by decide)).symm;unfold push fail;rw[if_pos h3];dsimp only;rw[if_pos he]
  ·rw[if_neg h3,if_neg (fun hx=>by cases hx.1)];have e:push p g={g with stack:=g.stack ++[p]}:=by unfold push;rw[if_neg h3]
   rw[e];unfold out7;rw[if_pos (show({g with stack:=g.stack ++[p]}:Flow).err=0 from he),Jq,hh];rfl
 ·rw[if_neg he,if_pos he];refine(out_err ?_ he).symm;exact err_push he
include h30 hst hl in
theorem fin_want(l:List Int)(h':List Bool)(hp:∀t∈l,VT M t):gen7 0 (0,l.map lt1,[]) false h' (st.map lt1)=out7 {want l (F0 st h)with has:=h'}:=by
 have ht:=want_take (f:=F0 st h) h30 rfl hp hst;have hle:=want_le l (F0 st h);unfold gen7;rw[if_neg (fun h=>h rfl),if_neg (fun h=>h rfl)];dsimp only;dsimp only at ht hle;rw[ht];generalize want l (F0 st h)=g at *
 by_cases he:g.err=0
 ·rw[if_pos he,if_neg (fun h=>h rfl)];dsimp only;rw[List.append_nil,Jf,if_neg (by omega),if_neg (fun hx=>by cases hx.1)];unfold out7;rw[if_pos (show({g with has:=h'}:Flow).err=0 from he)]
 ·rw[if_neg he,if_pos he];exact(out_err (g:={g with has:=h'}) rfl he).symm
include h30 hst hl in
theorem fin_done(l:List Int)(hp:∀t∈l,VT M t):gen7 0 (0,l.map lt1,[]) true h (st.map lt1)=out7 (done (want l (F0 st h))):=by
 have ht:=want_take (f:=F0 st h) h30 rfl hp hst;have hle:=want_le l (F0 st h);have hh:=want_has l (F0 st h);unfold gen7;rw[if_neg (fun h=>h rfl),if_neg (fun h=>h rfl)];dsimp only;dsimp only at ht hle;rw[ht];generalize want l (F0 st h)=g at *
 by_cases he:g.err=0
 ·rw[if_pos he,if_neg (fun h=>h rfl)];dsimp only;rw[List.append_nil,Jf,if_neg (by omega)];unfold done
  by_cases h0:g.stack.length=0
  ·rw[if_neg (fun hx=>hx.2 h0),if_pos h0];unfold out7;rw[if_pos he,hh]
  ·rw[if_pos ⟨rfl,h0⟩,if_neg h0];exact(out_err (by unfold fail;rw[if_pos he]) (by decide)).symm
 ·rw[if_neg he,if_pos he];refine(out_err ?_ he).symm;unfold done
  split
  ·rfl
  ·rw[err_fail he]
theorem gen_bad{a b st:List UInt8}{fin:Bool}{e:Int}(he:take7 st a=([],e))(h0:e≠0):gen7 0 (0,a,b) fin h st=(e,[],[]):=by
 unfold gen7;rw[if_neg no0,if_neg no0];dsimp only;rw[he,if_pos h0]
theorem gen_ok{a b st r:List UInt8}(he:take7 st a=(r,0))(hr:(r ++b).length≤300):gen7 0 (0,a,b) false h st=(0,r ++b,h):=by
 unfold gen7;rw[if_neg no0,if_neg no0];dsimp only;rw[he,if_neg no0];dsimp only;rw[if_neg (by omega),if_neg (fun hx=>by cases hx.1)]
include h30 hst hl in
theorem fin_pop:gen7 0 (0,[42],[]) false h (st.map lt1)=out7 (pop (F0 st h)).2:=by
 by_cases h0:st.length=0
 ·have e:take7 (st.map lt1) [42]=([],12):=by rw[take7_1,tk7_cons,Jf,if_pos h0]
  rw[gen_bad e yes12,pop_no h0];exact(out_err (e:=12) rfl yes12).symm
 ·have e:take7 (st.map lt1) [42]=((st.take (st.length-1)).map lt1,0):=by rw[take7_1,tk7_cons,Jf,if_neg h0,if_pos rfl,tk7_nil,List.map_take]
  rw[gen_ok e (by rw[List.append_nil,Jf,List.length_take];omega),pop_ok h0,List.append_nil];rfl
include h30 hst hl in
theorem fin_out:gen7 0 (0,[63],[]) false h (st.map lt1)=out7 (if(pop (F0 st h)).2.err=0∧plain (pop (F0 st h)).1=false then fail 9 (pop (F0 st h)).2 else(pop (F0 st h)).2):=by
 have hml:=map_last st
 by_cases h0:st.length=0
 ·have e:take7 (st.map lt1) [63]=([],12):=by rw[take7_1,tk7_cons,Jf,if_pos h0]
  rw[gen_bad e yes12,pop_no h0];rw[if_neg (c:=(fail 12 (F0 st h)).err=0∧plain 0=false) (fun hx=>by have:=hx.1;cases this)];exact(out_err (g:=fail 12 (F0 st h)) (e:=12) rfl yes12).symm
 ·have hr:=pop_in h30 hst h0;obtain⟨p1,p2⟩:=lt1_pl hr;rw[if_neg h0]at hml;have e0:take7 (st.map lt1) [63]=if(lt1 (st.getD (st.length-1) 0)≠110∧lt1 (st.getD (st.length-1) 0)≠98)∨((0:UInt8)≠0∧(0:UInt8)≠lt1 (st.getD (st.length-1) 0))then([],9)else((st.take (st.length-1)).map lt1,0):=by
   rw[take7_1,tk7_cons,hml,if_neg (by rw[Jf];exact h0),if_neg (show¬((63:UInt8)=42) by decide),if_pos rfl,tk7_nil,Jf,List.map_take]
  rw[pop_ok h0];dsimp only
  by_cases hp:st.getD (st.length-1) 0=1∨st.getD (st.length-1) 0=2
  ·have hc:¬((lt1 (st.getD (st.length-1) 0)≠110∧lt1 (st.getD (st.length-1) 0)≠98)∨((0:UInt8)≠0∧(0:UInt8)≠lt1 (st.getD (st.length-1) 0))):=by
    rintro(⟨a,b⟩|⟨a, -⟩)
    ·rcases hp with hp|hp
     ·exact a (p1.2 hp)
     ·exact b (p2.2 hp)
    ·exact a rfl
   rw[if_neg hc]at e0;rw[gen_ok e0 (by rw[List.append_nil,Jf,List.length_take];omega),List.append_nil,if_neg (fun hx=>by rw[plain_iff.2 hp]at hx;cases hx.2)];rfl
  ·have hc:(lt1 (st.getD (st.length-1) 0)≠110∧lt1 (st.getD (st.length-1) 0)≠98)∨((0:UInt8)≠0∧(0:UInt8)≠lt1 (st.getD (st.length-1) 0)):= .inl ⟨fun h=>hp (.inl (p1.1 h)),fun h=>hp (.inr (p2.1 h))⟩;have hpl:plain (st.getD (st.length-1) 0)=false:=by
    cases hx:plain (st.getD (st.length-1) 0)with
    |false=>rfl
    |true=>exact absurd (plain_iff.1 hx) hp
   rw[if_pos hc]at e0;rw[gen_bad e0 yes9,if_pos ⟨rfl,hpl⟩];exact(out_err (e:=9) rfl yes9).symm
include h30 hst hl in
theorem fin_eq:gen7 0 (0,[63,63],[98]) false h (st.map lt1)=out7 (push 2 (want [(pop (F0 st h)).1] (if(pop (F0 st h)).1≠1∧(pop (F0 st h)).1≠2 then fail 9 (pop (F0 st h)).2 else(pop (F0 st h)).2))):=by
 have hml:=map_last st
 by_cases h0:st.length=0
 ·have e:take7 (st.map lt1) [63,63]=([],12):=by
   rw[take7_2,tk7_cons,Jf,if_pos h0]
  unfold gen7;rw[if_neg no0,if_neg no0];dsimp only;rw[e,if_pos yes12,pop_no h0];refine(out_err ?_ (by decide)).symm;dsimp only;rw[if_pos (show(0:Int)≠1∧(0:Int)≠2 by decide)];have e1:(fail 9 (fail 12 (F0 st h))).err=12:=rfl;rw[err_push (by rw[err_want (by rw[e1];decide),e1];decide),err_want (by rw[e1];decide),e1]
 ·have hr:=pop_in h30 hst h0;obtain⟨p1,p2⟩:=lt1_pl hr;obtain⟨-, -,pz⟩:=lt1_ne hr;rw[if_neg h0]at hml;rw[pop_ok h0];dsimp only;have hm:(st.take (st.length-1)).map lt1=(st.map lt1).take ((st.map lt1).length-1):=by rw[List.map_take,Jf]
  by_cases hp:st.getD (st.length-1) 0=1∨st.getD (st.length-1) 0=2
  ·have hsv:∀t∈st.take (st.length-1),VT M t:=fun t ht=>hst t (List.mem_of_mem_take ht)
   have hvt:∀t∈[st.getD (st.length-1) 0],VT M t:=fun t ht=>by
    simp at ht;subst ht;rcases hp with hp|hp
    ·exact .inl hp
    ·exact .inr (.inl hp)
   have hw:=want_tk h30 [st.getD (st.length-1) 0] (F0 (st.take (st.length-1)) h) 0 rfl hvt hsv;have e:take7 (st.map lt1) [63,63]=take7 ((st.take (st.length-1)).map lt1) [lt1 (st.getD (st.length-1) 0)]:=by
    rw[take7_2,take7_1,tk7_cons,hml,if_neg (by rw[Jf];exact h0),if_neg (show¬((63:UInt8)=42) by decide),if_pos rfl];have hc:¬((lt1 (st.getD (st.length-1) 0)≠110∧lt1 (st.getD (st.length-1) 0)≠98)∨((0:UInt8)≠0∧(0:UInt8)≠lt1 (st.getD (st.length-1) 0))):=by
     rintro(⟨a,b⟩|⟨a, -⟩)
     ·rcases hp with hp|hp
      ·exact a (p1.2 hp)
      ·exact b (p2.2 hp)
     ·exact a rfl
    rw[if_neg hc,hm];generalize(st.map lt1).take ((st.map lt1).length-1)=s' at *;generalize hx:lt1 (st.getD (st.length-1) 0)=x at *;rw[tk7_cons,tk7_cons]
    by_cases hs0:s'.length=0
    ·rw[if_pos hs0,if_pos hs0]
    ·have hx42:x≠42:=by rcases hp with hp|hp<;>(rw[hp]at hx;rw[←hx];decide)
     have hx63:x≠63:=by rcases hp with hp|hp<;>(rw[hp]at hx;rw[←hx];decide)
     have hpx:x=110∨x=98:=by
      rcases hp with hp|hp
      ·exact .inl (p1.2 hp)
      ·exact .inr (p2.2 hp)
     rw[if_neg hs0,if_neg (show¬((63:UInt8)=42) by decide),if_pos rfl,if_neg hs0,if_neg hx42,if_neg hx63]
     by_cases hy:s'.getD (s'.length-1) 0=x
     ·rw[if_neg (fun hh=>by
       rcases hh with⟨a,b⟩|⟨-,b⟩
       ·rw[hy]at a b;rcases hpx with h|h
        ·exact a h
        ·exact b h
       ·exact b hy.symm),if_neg (fun hh=>hh hy),tk7_nil,tk7_nil]
     ·rw[if_pos (.inr ⟨pz,fun hh=>hy hh.symm⟩),if_pos hy]
   have:=fin_push (M:=M) (h:=h) h30 hsv [st.getD (st.length-1) 0] 2 hvt;rw[if_neg (by rcases hp with hp|hp<;>(rw[hp];decide))];rw[←this];unfold gen7;dsimp only;rw[e];rfl
  ·have e:take7 (st.map lt1) [63,63]=([],9):=by
    rw[take7_2,tk7_cons,hml,if_neg (by rw[Jf];exact h0),if_neg (show¬((63:UInt8)=42) by decide),if_pos rfl];rw[if_pos (.inl ⟨fun h=>hp (.inl (p1.1 h)),fun h=>hp (.inr (p2.1 h))⟩)]
   unfold gen7;rw[if_neg no0,if_neg no0];dsimp only;rw[e,if_pos yes9,if_pos ⟨fun h=>hp (.inl h),fun h=>hp (.inr h)⟩];refine(out_err ?_ (by decide)).symm;have e1:(fail 9 ({F0 st h with stack:=st.take (st.length-1)}:Flow)).err=9:=rfl;rw[err_push (by rw[err_want (by rw[e1];decide),e1];decide),err_want (by rw[e1];decide),e1]
end
end Go.Proofs.YtjehflelkpacfaaGreat.Rf7
