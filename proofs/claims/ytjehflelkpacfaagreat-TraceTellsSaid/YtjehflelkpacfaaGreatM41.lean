/- Run, walked. -/
import Derived.Test.YtjehflelkpacfaaGreatM40
import Derived.ProofKit
import Derived.OpenShut
import Derived.JoinedCond
import Derived.SizedLaws
import Derived.Deep.Slices
import Derived.Carry
import Derived.Test.YtjehflelkpacfaaGreatRows
import Derived.Deep.Strs
import Derived.ChangeSame
import Derived.Lib.SmallJoins
set_option linter.unusedVariables false
set_option linter.unusedSimpArgs false
set_option linter.unusedSectionVars false
set_option maxRecDepth 100000
namespace Go.Proofs.YtjehflelkpacfaaGreat.Vw
open Go.RowKit Go.Proofs.YtjehflelkpacfaaGreat.Img
attribute [local irreducible] Run Cod End OpT Still RunQ RunS RunT Fn PutOk
theorem Ring.ws_len{r:Ring}(h:r.n=0):r.ws=[]:=List.eq_nil_of_length_eq_zero (by rw[r.len,h])
def BegL.pl(s:BegL)(mb:Nat):MaP:=⟨s.xb,mb,s.to,s.tc,s.ts.map (·.tb),⟨s.bo,s.bc,s.rs.map (·.bb),none⟩⟩
def BegL.be(s:BegL):BxE:=⟨s.rs,none,0,[]⟩
theorem Mem.nilArr'{w:World}{L:List Chunk}(h:Mem w L)(e:TypeId){α:Type}{iα:Inhabited α}(f:α→List Value) [Enc f]{l:List α}(hl:l=[]):Mem w (arr none 0 0 e f l::L):=by subst hl;exact h.nilArr e f
theorem beg_ma{w:World}{L F:List Chunk}{m:ML}{mb:Nat}(s:BegL){n:Nat}(hn:n=0)(t:Takes (BegL.mem m mb s) L F)(h:Mem w L):Mem w (bxR (s.pl mb).p::(maM m (s.pl mb) s.ts s.be n ++F)):=by
 subst hn;have h1:Mem w (BegL.mem m mb s ++F):=h.takes t;have h2:=rd_own (α:=Nat) (ao:=s.bo) (n:=s.rs.length) (cap:=s.bc) (e:=91) (f:=ptrC) (l:=s.rs.map (·.bb)) (L:=BegL.mem m mb s ++F) (by exact .cons (.tail (.tail (.tail .head))) .nil) h1;have h3:Mem w (bag []::_):=h2.bagNil;have h4:=Mem.pack (cs:=[bag (s.rs.flatMap rgM),bag []]) (L:=_) (h3.takes (by exact .cons (.tail (.tail (.tail (.tail (.tail .head))))) (.cons .head .nil))) (fun c hc=>by simp at hc;rcases hc with rfl|rfl<;>exact bag_excl);have e1:(s.pl mb).tbs.length=s.ts.length:=by simp[BegL.pl]
 have e2:(s.pl mb).p.bs.length=s.rs.length:=by simp[BegL.pl]
 have h5:Mem w (bxM (s.pl mb).p s.be::rd s.bo s.rs.length s.bc ptrC (s.rs.map (·.bb))::blk s.xb (maC s.to s.ts.length s.tc s.bo s.rs.length s.bc 0) 54::blk mb (mdV m) 25::arr s.to s.ts.length s.tc 55 ptrC (s.ts.map (·.tb))::tksM mb (bxV s.bo s.rs.length s.bc) (fun _=> .nilFunc) s.ts::F):=h4;unfold maM bxR;rw[e1,e2];exact h5.takes (by exact .cons (.tail .head) (.cons (.tail .head) (.cons (.tail .head) (.cons (.tail .head) (.cons .head (.cons .head .nil))))))
theorem beg_is{m:ML}{T:Nat→Int→Option Ver.Shape}(hC:Vm.Certs m.mdl T){s:BegL}(h:s.Ok m)(mb:Nat):MaIs m T (s.pl mb) s.ts s.be 0∧maA s.ts s.be 0=Vm.Ma.init m.mdl:=by
 have hws:s.be.abs.ws=List.replicate m.mdl.boxes.length []:=by
  show s.rs.map Ring.ws=_;refine List.ext_getElem (by simp[h.rlen]) fun j h1 h2=>?_
  simp only[Jf]at h1;have:=(h.ring j (by rw[←h.rlen];exact h1)).2.2;rw[Jd,Je h1,JZ]at this;simp[Ring.ws_len this]
 have hA:maA s.ts s.be 0=Vm.Ma.init m.mdl:=by
  unfold Vm.Ma.init;simp only[maA,Vm.Ma.mk.injEq,and_true];refine⟨h.ts,?_⟩;have:s.be.abs=⟨s.be.abs.ws,[]⟩:=rfl;rw[this,hws]
 refine⟨⟨rfl,h.wf,⟨rfl,h.rlen,fun r hr=>?_,fun b hb=>(h.ring b hb).2.1⟩,by rw[hA];exact Vm.Ma.Ok.init hC⟩,hA⟩;obtain⟨j,hj,rfl⟩:=List.getElem_of_mem hr;have:=(h.ring j (by rw[←h.rlen];exact hj)).1;rw[Jd,Je (show j<s.rs.length from hj),JZ]at this;exact this
theorem beg_len{m:ML}{s:BegL}(h:s.Ok m)(h30:m.us.length≤30):s.ts.length≤30:=by
 have h1:=congrArg List.length h.ts;simp only[Jf]at h1;rw[h1,tasks_eq];have:=tasks_len m m.us.length;omega
end Go.Proofs.YtjehflelkpacfaaGreat.Vw
namespace Go.Proofs.YtjehflelkpacfaaGreat.Vm
theorem picks_app(M:ImgM.Mdl)(told:Bool):∀(a b:List (Int×Int)) (c:Ma),picks M told (a ++b) c=((picks M told a c).1 ++(picks M told b (picks M told a c).2).1,(picks M told b (picks M told a c).2).2)
 |[],b,c=>by simp[picks]
 |p::a,b,c=>by simp only[List.cons_append,picks];rw[picks_app M told a b]
theorem picks_one(M:ImgM.Mdl)(told:Bool)(p:Int×Int)(c:Ma):picks M told [p] c=([(pick M told c p).1],(pick M told c p).2):=by simp[picks]
theorem picks_succ(M:ImgM.Mdl)(told:Bool)(l:List (Int×Int))(c:Ma)(k:Nat)(hk:k<l.length):picks M told (l.take (k+1)) c=((picks M told (l.take k) c).1 ++[(pick M told (picks M told (l.take k) c).2 (l.getD k default)).1],(pick M told (picks M told (l.take k) c).2 (l.getD k default)).2):=by
 rw[Jp hk,picks_app,picks_one,Jd,Je hk];rfl
theorem picks_len(M:ImgM.Mdl)(told:Bool):∀(l:List (Int×Int)) (c:Ma),(picks M told l c).1.length=l.length
 |[],c=>rfl
 |p::l,c=>by simp only[picks,JW];rw[picks_len]
end Go.Proofs.YtjehflelkpacfaaGreat.Vm
namespace Go.Proofs.YtjehflelkpacfaaGreat.Vw
open Go.RowKit Go.Proofs.YtjehflelkpacfaaGreat.Img
section
attribute [local irreducible] Run Cod End OpT Still RunQ RunS RunT Fn PutOk
structure PkL where
 o:Option Addr
 c:Nat
 l:List (Int×Int)
abbrev PkL.val(p:PkL):Value:= .slice p.o p.l.length p.c
abbrev pkR(p:PkL):Chunk:=rd p.o p.l.length p.c pkC p.l
structure RunL where
 w:WoL
 o:Option Addr
 c:Nat
 l:List (Int×Nat)
abbrev RunL.zero:RunL:=⟨⟨none,0,[],none,0,[],0⟩,none,0,[]⟩
structure RunL.Is(m:ML)(ps:List (Int×Int))(r:RunL):Prop where
 w:r.w.Is ((Vm.picks m.mdl false ps (Vm.Ma.init m.mdl)).2.looked m.mdl)
 l:r.l=(Vm.picks m.mdl false ps (Vm.Ma.init m.mdl)).1
def RunIs(m:ML)(ps:List (Int×Int))(r:RunL):Prop:=if Vm.wrong m.mdl ps.length=0 then r.Is m ps else r=RunL.zero
abbrev RunL.mem(r:RunL):List Chunk:=arr r.o r.l.length r.c 42 ddC r.l::r.w.mem
theorem wrong_zero{M:ImgM.Mdl}{n:Nat}(h:Vm.wrong M n=0):Ver.verify M= .ok∧n≤400:=by
 unfold Vm.wrong at h
 by_cases h1:(Ver.verify M).err≠0
 ·rw[if_pos h1]at h;exact absurd h h1
 ·rw[if_neg h1]at h;refine⟨Ver.verify_eq (Classical.not_not.1 h1),?_⟩
  by_cases h2:400<n
  ·rw[if_pos h2]at h;cases h
  ·exact Nat.le_of_not_lt h2
attribute [local irreducible] Ver.verify Vm.wrong Vm.picks
theorem caps_ok{m:ML}(h:Ver.verify m.mdl= .ok)(b:Nat)(hb:b<m.bx.length):1≤(m.bx.getD b default).2∧(m.bx.getD b default).2≤20:=by
 have:=(Ver.verify_iff.1 h).form.boxes (m.bx.getD b default) (by rw[Jd,Je hb];exact List.getElem_mem _);exact this.2
def ckOf(m:ML)(ps:List (Int×Int))(k:Nat):List (Int×Nat)×Vm.Ma:=Vm.picks m.mdl false (ps.take k) (Vm.Ma.init m.mdl)
theorem ckOf_zero(m:ML)(ps:List (Int×Int)):ckOf m ps 0=([],Vm.Ma.init m.mdl):=by unfold ckOf Vm.picks;rfl
theorem ckOf_succ(m:ML)(ps:List (Int×Int)){k:Nat}(hk:k<ps.length):ckOf m ps (k+1)=((ckOf m ps k).1 ++[(Vm.pick m.mdl false (ckOf m ps k).2 (ps.getD k default)).1],(Vm.pick m.mdl false (ckOf m ps k).2 (ps.getD k default)).2):=Vm.picks_succ m.mdl false ps _ k hk
theorem ckOf_all(m:ML)(ps:List (Int×Int)):ckOf m ps ps.length=Vm.picks m.mdl false ps (Vm.Ma.init m.mdl):=by unfold ckOf;rw[List.take_length]
set_option maxHeartbeats 2000000 in
theorem run_is(m:ML)(hwf:m.Wf)(ps:PkL):Fn Tryz.prog 8 #[m.val,ps.val] [md m,pkR ps] [] (σ:=RunL) (RunIs m ps.l) (fun r=> .tuple #[.agg r.w.cells.toArray, .slice r.o r.l.length r.c, .int .i64 (Vm.wrong m.mdl ps.l.length)]) RunL.mem:=by
 refine Fn.enter (args:=[m.val,ps.val]) Tryz.func8 rfl _ Tryz.ntmps8 rfl (by simp[md_excl,rd_excl]) (fun w S=>?_);(refine Jn ?_);obtain⟨W,hW⟩:∃W,W=Vm.wrong m.mdl ps.l.length:=⟨_,rfl⟩;unfold RunIs;rw[←hW]
 repeat(refine Jy ?_;try first|intro ao cap|intro b)
 obtain⟨rb,rfl⟩:∃x,x=b:=⟨_,rfl⟩;(refine JQ (wrong_is m hwf ps.l.length) ?_;intro s hs;(refine Jn ?_));rw[←hW]
 by_cases h0:¬W=0
 ·repeat(refine Jy ?_;try first|intro ao cap|intro b)
  apply End.imp (fun w hm=>(((((hm.bagNil).bagNil).nilArr 102 enC).nilArr 63 rwC)).nilArr 42 ddC);(refine End.doneC3 (RunL.zero) (hr:=by exact rfl) (hv:=by exact rfl) (ht:=by exact rfl) (hm:=tk) (hl:=by exact rfl) (hu:=by exact rfl) (hw:=by exact rfl) (he:=Jv) (hx:=by(simp[blk_excl,arr_excl,bag_excl,mp_excl])) (hF:=tks) (hp:=?_));rw[if_neg h0]
 have h0:=Classical.not_not.1 h0;subst h0;obtain⟨hv,hp4⟩:=wrong_zero hW.symm;have hF:=formed (Ver.verify_iff.1 hv).form;have hu30:=hF.units;have hb30:=hF.boxes;obtain⟨T,hC⟩:=certs_ml hwf hv
 repeat(refine Jy ?_;try first|intro ao cap|intro b)
 obtain⟨mb,rfl⟩:∃x,x=b:=⟨_,rfl⟩;(refine JQ (begin2_is mb m hb30 hu30 (caps_ok hv) (fun k hk=>(head_ok (hF.head k hk)).1)) ?_;intro s hs;(refine Jn ?_));obtain⟨e1,e2⟩:=beg_is hC hs mb;have hn:=beg_len hs hu30;have hk0:=ckOf_zero m ps.l;obtain⟨n0,hn0'⟩:∃n,n=(ckOf m ps.l 0).2.n:=⟨_,rfl⟩;have hn0:n0=0:=by rw[hn0',hk0];rfl
 apply Run.imp' (fun w hm=>beg_ma s hn0 (tks) hm);(refine Jn ?_);obtain⟨x,hx⟩:∃x,x=s.pl mb:=⟨_,rfl⟩;obtain⟨ts0,ht0⟩:∃x,x=s.ts:=⟨_,rfl⟩;obtain⟨e0,he0⟩:∃x,x=s.be:=⟨_,rfl⟩;have hxb:s.xb=x.xb:=by rw[hx];rfl
 rw[←hx]at e1;rw[←ht0,←he0]at e1 e2;rw[←ht0]at hn;rw[hxb,←hx,←ht0,←he0];clear hx ht0 he0 hxb hs s;subst hn0'
 repeat(refine Jy ?_;try first|intro ao cap|intro b)
 apply Cod.imp (fun w hm=>Mem.nilArr' hm 42 ddC (l:=(ckOf m ps.l 0).1) (by rw[hk0]));refine Cod.only ((fun z=>[old w S,md m,bxR x.p,pkR ps,blk rb [.slice none 0 0, .slice none 0 0, .int .i64 0] 36,arr z.2.2.2.1 z.1 z.2.2.2.2 42 ddC (ckOf m ps.l z.1).1] ++maM m x z.2.1 z.2.2.1 (ckOf m ps.l z.1).2.n) (0,ts0,e0,none,0)) (tks) ?_;apply Cod.loop (σ:=Nat×List TkL×BxE×Option Addr×Nat) (fun z=>z.1≤ps.l.length∧z.2.1.length≤30∧MaIs m T x z.2.1 z.2.2.1 (ckOf m ps.l z.1).2.n∧maA z.2.1 z.2.2.1 (ckOf m ps.l z.1).2.n=(ckOf m ps.l z.1).2) (fun z=>[(4,ptr rb),(8,ptr x.xb),(9, .slice z.2.2.2.1 z.1 z.2.2.2.2),(21, .slice ps.o ps.l.length ps.c),(22, .int .i64 (ps.l.length:Int)),(23, .int .i64 (z.1:Int))]) (fun z=>[old w S,md m,bxR x.p,pkR ps,blk rb [.slice none 0 0, .slice none 0 0, .int .i64 0] 36,arr z.2.2.2.1 z.1 z.2.2.2.2 42 ddC (ckOf m ps.l z.1).1] ++maM m x z.2.1 z.2.2.1 (ckOf m ps.l z.1).2.n) (fun z=>ps.l.length-z.1) (0,ts0,e0,none,0)
 rotate_left
 exact sb;exact tks;intro z hz K1 hK1;(refine Jn ?_)
 rotate_left
 ·exact⟨Nat.zero_le _,hn,by rw[hn0];exact e1,by rw[hn0,e2,hk0]⟩
 obtain⟨q,us,e,ao,ac⟩:=z;obtain⟨hq0,hun,hI,hA⟩:=hz;dsimp only at hq0 hun hI hA hK1⊢
 by_cases hq:q<ps.l.length
 ·obtain⟨tq,q1,htq⟩:∃tq q1,ps.l.getD q default=(tq,q1):=⟨_,_,rfl⟩;have hsn:=ckOf_succ m ps.l hq
  repeat(refine Jy ?_;try first|intro ao cap|intro b)
  rw[htq];rw[htq]at hsn;obtain⟨C1,hC1⟩:∃C,C=ckOf m ps.l (q+1):=⟨_,rfl⟩;rw[←hC1]at hsn;generalize ckOf m ps.l q=C at *;rw[←hA]at hsn;have hsp:=pickA_is m hC x us e C.2.n hI hun tq q1;generalize Vm.pick m.mdl false (maA us e C.2.n) (tq,q1)=R at *;(refine Jc ?_;refine OpT.call0_ (spec:=hsp) (r:=(fun w=>Reads.md (tk) (Reads.any (tk) (bxR_excl x.p) .nil))) (k:=?_);intro s hs;(refine Jn ?_));obtain⟨us',e'⟩:=s;obtain⟨g1,g2,g3⟩:=hs;dsimp only at g1 g2 g3⊢
  repeat(refine Jy ?_;try first|intro ao cap|intro b)
  have a1:C.1 ++[R.1]=(ckOf m ps.l (q+1)).1:=by rw[←hC1,hsn]
  have a2:R.2.n=(ckOf m ps.l (q+1)).2.n:=by rw[←hC1,hsn]
  rw[a1,a2];rw[a2]at g1 g3;refine End.round0_ hK1 (q+1,us',e',ao,cap) ?_ ?_
  ·exact⟨by dsimp only;omega,by dsimp only;omega,g1,by dsimp only;rw[g3,←hC1,hsn]⟩
  ·dsimp only;omega
 ·obtain rfl:q=ps.l.length:=by omega
  clear hK1
  repeat(refine Jy ?_;try first|intro ao cap|intro b)
  have hce:=ckOf_all m ps.l;have hcl:=congrArg List.length (congrArg Prod.fst hce);rw[Vm.picks_len]at hcl;generalize ckOf m ps.l ps.l.length=C at *;(refine Jc ?_;refine OpT.call0_ (spec:=world_is m hC x us e C.2.n hI hun hb30) (r:=(fun w=>Reads.md (tk) (Reads.any (tk) (bxR_excl x.p) .nil))) (k:=?_);intro s hs;(refine Jn ?_));obtain⟨us',r⟩:=s;obtain⟨g1,g2,g3⟩:=hs;dsimp only at g1 g2 g3⊢;rw[hA]at g3;rw[←hcl]
  repeat(refine Jy ?_;try first|intro ao cap|intro b)
  (refine End.doneC3 ((⟨r,ao,ac,C.1⟩:RunL)) (hr:=by exact rfl) (hv:=by exact rfl) (ht:=by exact rfl) (hm:=tk) (hl:=by exact rfl) (hu:=by exact rfl) (hw:=by exact rfl) (he:=Jv) (hx:=by(simp[blk_excl,arr_excl,bag_excl,mp_excl])) (hF:=tks) (hp:=?_));rw[if_pos rfl];exact⟨by rw[←hce];exact g3,by rw[←hce]⟩
end
attribute [local irreducible] Run Cod End OpT Still RunQ RunS RunT Fn PutOk
attribute [local irreducible] Ver.verify Vm.wrong Vm.picks
theorem wrong10_is(m:ML)(hwf:m.Wf)(ps:PkL):Fn Tryz.prog 17 #[m.val,ps.val] [md m] [] (σ:=Unit) (fun _=>True) (fun _=> .int .i64 (Vm.wrong m.mdl ps.l.length)) (fun _=>[]):=by
 refine Fn.enter (args:=[m.val,ps.val]) Tryz.func17 rfl _ Tryz.ntmps17 rfl (by simp[md_excl]) (fun w S=>?_);(refine Jn ?_)
 repeat(refine Jy ?_;try first|intro ao cap|intro b)
 (refine JQ (verify7_is m hwf) ?_;intro s hs;(refine Jn ?_));obtain⟨V,hV⟩:∃V,V=Ver.verify m.mdl:=⟨_,rfl⟩;have hW:Vm.wrong m.mdl ps.l.length=if V.err≠0 then V.err else if 400<ps.l.length then 5 else 0:=by unfold Vm.wrong;rw[←hV]
 rw[hW,←hV]
 by_cases h1:V.err=0
 ·rw[if_neg (fun h=>h h1)]
  by_cases h2:400<ps.l.length
  ·rw[if_pos h2]
   repeat(refine Jy ?_;try first|intro ao cap|intro b)
   (refine End.done1_ (()) (he:=Jv) (hp:=?_));trivial
  ·rw[if_neg h2]
   repeat(refine Jy ?_;try first|intro ao cap|intro b)
   (refine End.done1_ (()) (he:=Jv) (hp:=?_));trivial
 ·rw[if_pos h1]
  repeat(refine Jy ?_;try first|intro ao cap|intro b)
  (refine End.done1_ (()) (he:=Jv) (hp:=?_));trivial
def NwL.pl(m:ML)(s:NwL):AlP:=⟨s.ab,s.to,s.tc,s.ts.map (·.tb),⟨s.bb,s.co,s.cc,m.bx.map (·.2),s.wo,s.wc⟩⟩
theorem nw_ma{w:World}{L F:List Chunk}{m:ML}(s:NwL){n:Nat}(hn:n=0)(t:Takes (NwL.mem m s) L F)(h:Mem w L):Mem w (wxR (s.pl m).p::(alM m (s.pl m) s.ts (nulls m.bx.length) n ++F)):=by
 subst hn;have h1:Mem w (NwL.mem m s ++F):=h.takes t;have h2:=rd_own (α:=Int) (ao:=s.co) (n:=m.bx.length) (cap:=s.cc) (e:=3) (f:=i64c) (l:=m.bx.map (·.2)) (L:=NwL.mem m s ++F) (by exact .cons (.tail (.tail (.tail .head))) .nil) h1;have h4:=Mem.pack (cs:=[blk s.bb [.slice s.co m.bx.length s.cc, .slice s.wo m.bx.length s.wc] 97,arr s.wo m.bx.length s.wc 63 rwC (nulls m.bx.length),bag ((nulls m.bx.length).map (rowM 2))]) (L:=_) (h2.takes (by exact .cons (.tail (.tail (.tail .head))) (.cons (.tail (.tail (.tail .head))) (.cons (.tail (.tail (.tail .head))) .nil)))) (fun c hc=>by simp at hc;rcases hc with rfl|rfl|rfl;exact blk_excl;exact arr_excl;exact bag_excl);have e1:(s.pl m).tbs.length=s.ts.length:=by simp[NwL.pl]
 have e2:(s.pl m).p.caps.length=m.bx.length:=by simp[NwL.pl]
 unfold alM wxR wxM wxL wxV;rw[e1,e2];exact h4.takes (by exact .cons (.tail .head) (.cons (.tail .head) (.cons (.tail .head) (.cons .head (.cons .head .nil)))))
theorem nw_is{m:ML}{T:Nat→Int→Option Ver.Shape}(hC:Vm.Certs m.mdl T)(hv:Ver.verify m.mdl= .ok){s:NwL}(h:s.Ok m):AlIs m T (s.pl m) s.ts (nulls m.bx.length) 0∧alA s.ts (nulls m.bx.length) 0=Vm.Ma.init m.mdl:=by
 have hA:alA s.ts (nulls m.bx.length) 0=Vm.Ma.init m.mdl:=by
  unfold Vm.Ma.init;simp only[alA,Vm.Ma.mk.injEq,and_true];refine⟨h.ts,?_⟩;unfold wxAbs;rw[List.map_replicate]
 refine⟨⟨rfl,fun t ht=>(h.wf t ht).1,⟨rfl,by simp,fun b hb=>caps_ok hv b hb,fun b hb=>?_⟩,by rw[hA];exact Vm.Ma.Ok.init hC,fun t ht=>by rw[(h.wf t ht).2];exact Nat.zero_le _⟩,hA⟩;rw[Jd,List.getElem?_replicate]
 split<;>exact Nat.zero_le _
theorem nw_len{m:ML}{s:NwL}(h:s.Ok m)(h30:m.us.length≤30):s.ts.length≤30:=by
 have h1:=congrArg List.length h.ts;simp only[Jf]at h1;rw[h1,tasks_eq];have:=tasks_len m m.us.length;omega
set_option maxHeartbeats 2000000 in
theorem run10_is(m:ML)(hwf:m.Wf)(ps:PkL):Fn Tryz.prog 9 #[m.val,ps.val] [md m,pkR ps] [] (σ:=RunL) (RunIs m ps.l) (fun r=> .tuple #[.agg r.w.cells.toArray, .slice r.o r.l.length r.c, .int .i64 (Vm.wrong m.mdl ps.l.length)]) RunL.mem:=by
 refine Fn.enter (args:=[m.val,ps.val]) Tryz.func9 rfl _ Tryz.ntmps9 rfl (by simp[md_excl,rd_excl]) (fun w S=>?_);(refine Jn ?_);obtain⟨W,hW⟩:∃W,W=Vm.wrong m.mdl ps.l.length:=⟨_,rfl⟩;unfold RunIs;rw[←hW]
 repeat(refine Jy ?_;try first|intro ao cap|intro b)
 obtain⟨rb,rfl⟩:∃x,x=b:=⟨_,rfl⟩;(refine JQ (wrong10_is m hwf ps) ?_;intro s hs;(refine Jn ?_));rw[←hW]
 by_cases h0:¬W=0
 ·repeat(refine Jy ?_;try first|intro ao cap|intro b)
  apply End.imp (fun w hm=>(((((hm.bagNil).bagNil).nilArr 102 enC).nilArr 63 rwC)).nilArr 42 ddC);(refine End.doneC3 (RunL.zero) (hr:=by exact rfl) (hv:=by exact rfl) (ht:=by exact rfl) (hm:=tk) (hl:=by exact rfl) (hu:=by exact rfl) (hw:=by exact rfl) (he:=Jv) (hx:=by(simp[blk_excl,arr_excl,bag_excl,mp_excl])) (hF:=tks) (hp:=?_));rw[if_neg h0]
 have h0:=Classical.not_not.1 h0;subst h0;obtain⟨hv,hp4⟩:=wrong_zero hW.symm;have hF:=formed (Ver.verify_iff.1 hv).form;have hu30:=hF.units;have hb30:=hF.boxes;obtain⟨T,hC⟩:=certs_ml hwf hv
 repeat(refine Jy ?_;try first|intro ao cap|intro b)
 (refine JQ (new10_is m hb30 hu30 (fun k hk=>(head_ok (hF.head k hk)).1)) ?_;intro s hs;(refine Jn ?_));obtain⟨e1,e2⟩:=nw_is hC hv hs;have hn:=nw_len hs hu30;have hk0:=ckOf_zero m ps.l;obtain⟨n0,hn0'⟩:∃n,n=(ckOf m ps.l 0).2.n:=⟨_,rfl⟩;have hn0:n0=0:=by rw[hn0',hk0];rfl
 apply Run.imp' (fun w hm=>nw_ma s hn0 (tks) hm);(refine Jn ?_);obtain⟨x,hx⟩:∃x,x=s.pl m:=⟨_,rfl⟩;obtain⟨ts0,ht0⟩:∃x,x=s.ts:=⟨_,rfl⟩;obtain⟨e0,he0⟩:∃x,x=nulls m.bx.length:=⟨_,rfl⟩;have hxb:s.ab=x.ab:=by rw[hx];rfl
 rw[←hx]at e1;rw[←ht0,←he0]at e1 e2;rw[←ht0]at hn;rw[hxb,←hx,←ht0,←he0];clear hx ht0 he0 hxb hs s;subst hn0'
 repeat(refine Jy ?_;try first|intro ao cap|intro b)
 apply Cod.imp (fun w hm=>Mem.nilArr' hm 42 ddC (l:=(ckOf m ps.l 0).1) (by rw[hk0]));refine Cod.only ((fun z=>[old w S,md m,wxR x.p,pkR ps,blk rb [.slice none 0 0, .slice none 0 0, .int .i64 0] 36,arr z.2.2.2.1 z.1 z.2.2.2.2 42 ddC (ckOf m ps.l z.1).1] ++alM m x z.2.1 z.2.2.1 (ckOf m ps.l z.1).2.n) (0,ts0,e0,none,0)) (tks) ?_;apply Cod.loop (σ:=Nat×List RkL×List Rw×Option Addr×Nat) (fun z=>z.1≤ps.l.length∧z.2.1.length≤30∧AlIs m T x z.2.1 z.2.2.1 (ckOf m ps.l z.1).2.n∧alA z.2.1 z.2.2.1 (ckOf m ps.l z.1).2.n=(ckOf m ps.l z.1).2) (fun z=>[(4,ptr rb),(8,ptr x.ab),(9, .slice z.2.2.2.1 z.1 z.2.2.2.2),(21, .slice ps.o ps.l.length ps.c),(22, .int .i64 (ps.l.length:Int)),(23, .int .i64 (z.1:Int))]) (fun z=>[old w S,md m,wxR x.p,pkR ps,blk rb [.slice none 0 0, .slice none 0 0, .int .i64 0] 36,arr z.2.2.2.1 z.1 z.2.2.2.2 42 ddC (ckOf m ps.l z.1).1] ++alM m x z.2.1 z.2.2.1 (ckOf m ps.l z.1).2.n) (fun z=>ps.l.length-z.1) (0,ts0,e0,none,0)
 rotate_left
 exact sb;exact tks;intro z hz K1 hK1;(refine Jn ?_)
 rotate_left
 ·exact⟨Nat.zero_le _,hn,by rw[hn0];exact e1,by rw[hn0,e2,hk0]⟩
 obtain⟨q,us,e,ao,ac⟩:=z;obtain⟨hq0,hun,hI,hA⟩:=hz;dsimp only at hq0 hun hI hA hK1⊢
 by_cases hq:q<ps.l.length
 ·obtain⟨tq,q1,htq⟩:∃tq q1,ps.l.getD q default=(tq,q1):=⟨_,_,rfl⟩;have hsn:=ckOf_succ m ps.l hq
  repeat(refine Jy ?_;try first|intro ao cap|intro b)
  rw[htq];rw[htq]at hsn;obtain⟨C1,hC1⟩:∃C,C=ckOf m ps.l (q+1):=⟨_,rfl⟩;rw[←hC1]at hsn;generalize ckOf m ps.l q=C at *;rw[←hA]at hsn;have hsp:=pick10_is m hC x us e C.2.n hI hun tq q1;obtain⟨P,hP⟩:∃P:List RkL→List Rw→Prop,P=PkIs m T x us e C.2.n (tq,q1):=⟨_,rfl⟩;rw[←hP]at hsp;have hPk:∀a c,P a c→AlIs m T x a c (Vm.pick m.mdl false (alA us e C.2.n) (tq,q1)).2.n∧a.length=us.length∧alA a c (Vm.pick m.mdl false (alA us e C.2.n) (tq,q1)).2.n=(Vm.pick m.mdl false (alA us e C.2.n) (tq,q1)).2:=fun a c h=>by rw[hP]at h;exact⟨h.is,h.len,h.ma⟩
  clear hP;generalize Vm.pick m.mdl false (alA us e C.2.n) (tq,q1)=R at *;(refine Jc ?_;refine OpT.call0_ (spec:=hsp) (r:=(fun w=>Reads.md (tk) (Reads.any (tk) (wxR_excl x.p) .nil))) (k:=?_);intro s hs;(refine Jn ?_));obtain⟨us',e'⟩:=s;obtain⟨g1,g2,g3⟩:=hPk _ _ hs;dsimp only at g1 g2 g3⊢
  repeat(refine Jy ?_;try first|intro ao cap|intro b)
  have a1:C.1 ++[R.1]=(ckOf m ps.l (q+1)).1:=by rw[←hC1,hsn]
  have a2:R.2.n=(ckOf m ps.l (q+1)).2.n:=by rw[←hC1,hsn]
  rw[a1,a2];rw[a2]at g1 g3;refine End.round0_ hK1 (q+1,us',e',ao,cap) ?_ ?_
  ·exact⟨by dsimp only;omega,by dsimp only;omega,g1,by dsimp only;rw[g3,←hC1,hsn]⟩
  ·dsimp only;omega
 ·obtain rfl:q=ps.l.length:=by omega
  clear hK1
  repeat(refine Jy ?_;try first|intro ao cap|intro b)
  have hce:=ckOf_all m ps.l;have hcl:=congrArg List.length (congrArg Prod.fst hce);rw[Vm.picks_len]at hcl;generalize ckOf m ps.l ps.l.length=C at *;(refine Jc ?_;refine OpT.call0_ (spec:=world10_is m hC x us e C.2.n hI hun) (r:=(fun w=>Reads.md (tk) (Reads.any (tk) (wxR_excl x.p) .nil))) (k:=?_);intro s hs;(refine Jn ?_));obtain⟨r,rfl⟩:∃x,x=s:=⟨_,rfl⟩;have g3:=hs;rw[hA]at g3;rw[←hcl]
  repeat(refine Jy ?_;try first|intro ao cap|intro b)
  (refine End.doneC3 ((⟨r,ao,ac,C.1⟩:RunL)) (hr:=by exact rfl) (hv:=by exact rfl) (ht:=by exact rfl) (hm:=tk) (hl:=by exact rfl) (hu:=by exact rfl) (hw:=by exact rfl) (he:=Jv) (hx:=by(simp[blk_excl,arr_excl,bag_excl,mp_excl])) (hF:=tks) (hp:=?_));rw[if_pos rfl];exact⟨by rw[←hce];exact g3,by rw[←hce]⟩
end Go.Proofs.YtjehflelkpacfaaGreat.Vw
namespace Go.Proofs.YtjehflelkpacfaaGreat
open Go.RowKit Go.ChangeShapes Go.WideShapes Go.ChangeAt
section
variable{H:Type}{enc:TypeId×Value→H}{P:Program}{w:World}
abbrev Trd(enc:TypeId×Value→H)(P:Program)(w:World)(fuel:Nat)(t:TypeId)(cs:List Value)(x:DataW H×List MemPlace):Prop:=
 DataW.trod enc P w 0 (fun _=>true) true fuel t cs=some x
def Fits(P:Program)(t:TypeId)(d:DataW H):Prop:=∀n∈d.weights P t,n≤reachBytes
theorem fits_all{e:TypeId}:∀{l:List (DataW H)},(∀n∈DataW.weightsAll P e l,n≤reachBytes)→∀d∈l,Fits P e d
 |[],_,d,hd=>by cases hd
 |x::r,h,d,hd=>by
  simp only[DataW.weightsAll,List.mem_append]at h;rcases List.mem_cons.1 hd with rfl|hd
  ·exact fun n hn=>h n (.inl hn)
  ·exact fits_all (fun n hn=>h n (.inr hn)) d hd
theorem fits_each{ts:List TypeId}{ds:List (DataW H)}(h:∀n∈DataW.weightsEach P ts ds,n≤reachBytes){j:Nat}{t:TypeId}{d:DataW H}(ht:ts[j]?=some t)(hd:ds[j]?=some d):Fits P t d:=
 fun n hn=>h n (DataW.weights_mem_each ht hd n hn)
theorem read_slice{α:Type} [Inhabited α]{t e:TypeId}{size:Nat}(f:α→List Value)(Q:α→Prop)(ht:P.underlying t=some (.slice e))(hc:P.cellsOf e=size)(hs:0<size)
  (hel:∀fuel cs x,Trd enc P w fuel e cs x→Fits P e x.1→cs.length=size→∃a,cs=f a∧Q a)
  {fuel:Nat} {cs:List Value} {x:DataW H×List MemPlace} (h:Trd enc P w fuel t cs x) (hf:Fits P t x.1):
  ∃(v:Value) (l:List α),cs=[v]∧Row w v size l.length (l.flatMap f)∧(∀a∈l,Q a)∧l.length*P.bytesOf e≤reachBytes∧(∀b,v.ownBlock=some b→0<l.length→b<w.heap.size):=by
 rcases Deep.open_slice ht h with⟨rfl,rfl⟩|⟨a,len,cap,m,n,D,Pl,rfl,hb,hl,hm,hmm,rfl,hx⟩
 ·exact⟨_,[],rfl,⟨by simp,Nat.zero_le _,none,0,rfl,Nat.le_refl _,fun h=>by simp at h⟩,by simp,by simp,fun b h=>by cases h⟩
 ·simp only[if_true]at hmm;subst hmm;have hw:=hf;simp only[Fits,DataW.weights,ht,List.mem_cons,List.mem_append]at hw;have hel':∀i,i<len→∃y:α,(∀j,j<size→w.cell? (a.add (i*size+j))=(f y)[j]?)∧(f y).length=size∧Q y:=by
   intro i hi;obtain⟨cs',h1,h2⟩:=hx i (by omega);rw[hc]at h1;obtain⟨-,h3,h4⟩:=World.cells?_some h1;obtain⟨y,rfl,hq⟩:=hel n cs' (D i,Pl i) h2 (fits_all (fun n hn=>hw n (.inr (.inl hn))) (D i) (List.mem_map.2 ⟨i,by simpa using hi,rfl⟩)) h3;refine⟨y,fun j hj=>?_,h3,hq⟩;rw[←Deep.add_add];exact h4 j hj
  obtain⟨F,hF⟩:=Deep.choose_lt hel';refine⟨_,(List.range len).map F,rfl,?_,?_,?_,?_⟩
  ·have hlen:∀m,m≤len→(((List.range m).map F).flatMap f).length=m*size:=by
    intro m hm
    induction m with
    |zero=>simp
    |succ m ih=>
     rw[List.range_succ,Jq,List.flatMap_append,Jl,ih (by omega)];simp[(hF m (by omega)).2.1,Nat.add_mul]
   have hget:∀m,m≤len→∀j,j<m*size→w.cell? (a.add j)=(((List.range m).map F).flatMap f)[j]?:=by
    intro m hm
    induction m with
    |zero=>intro j hj;simp at hj
    |succ m ih=>
     intro j hj;rw[List.range_succ,Jq,List.flatMap_append]
     by_cases hjm:j<m*size
     ·rw[List.getElem?_append_left (by rw[hlen m (by omega)];exact hjm)];exact ih (by omega) j hjm
     ·rw[List.getElem?_append_right (by rw[hlen m (by omega)];omega),hlen m (by omega)];have:=(hF m (by omega)).1 (j-m*size) (by rw[Nat.add_mul]at hj;omega);rw[show m*size+(j-m*size)=j by omega]at this;simpa using this
   refine⟨by simp only[Jf,List.length_range];exact hlen len (Nat.le_refl _),by simp;omega,some a,m,by simp,by simpa using hl,fun hpos=>?_⟩;simp only[Jf,List.length_range]at hpos⊢;have h0:=hget len (Nat.le_refl _) 0 (Nat.mul_pos hpos hs);have hsome:(w.cell? (a.add 0)).isSome=true:=by
    rw[h0,Je (by rw[hlen len (Nat.le_refl _)];exact Nat.mul_pos hpos hs)];rfl
   obtain⟨b,off,spot⟩:=a;have hspot:spot=none:=by
    cases spot with
    |none=>rfl
    |some s=>
     unfold World.cell? Addr.add at hsome
     split at hsome<;>simp_all
   subst hspot;exact⟨b,off,rfl,fun j hj=>by rw[←Addr.add_lit];exact hget len (Nat.le_refl _) j hj⟩
  ·intro y hy;obtain⟨i,hi,rfl⟩:=List.mem_map.1 hy;exact(hF i (by simpa using hi)).2.2
  ·have:=hw _ (.inl rfl);simp only[Jf,List.length_range]at this⊢;refine Nat.le_trans (Nat.mul_le_mul_right _ ?_) this;omega
  ·intro b hb' hpos;simp only[Jf,List.length_range]at hpos;simp[Value.ownBlock]at hb';subst hb';obtain⟨y,hy1,hy2, -⟩:=hel' 0 hpos;have:=hy1 0 hs;rw[Je (by omega)]at this;have hlt:=World.block_lt_of_cell? w _ this;have e1:(a.add (0*size+0)).block=a.block:=by unfold Addr.add;split<;>rfl
   rwa [e1]at hlt
theorem wf_i64{n:Int}(h:(Lit.int .i64 n).wf=true): -9223372036854775808≤n∧n≤9223372036854775807:=by
 simpa[Lit.wf,IntKind.min,IntKind.max,IntKind.signed,IntKind.bits]using h
theorem law_post{f:Func}{s:ChangeSpec}{W W':World}{args:Array Value}{ds gs:List (DataW H)}{before:List MemPlace}{tb:TypeId}
  (hl:laidOutB P=true) (hr:∀t∈f.params.toList,P.readableRec t=true∧t<P.types.size) (hrt:f.resultTypes= #[tb]) (htb:P.underlying tb=some .bool) (hsv:s.vars=[])
  (hW:DataW.Whole enc P f.params.toList s.vars false W args.toList ds gs before) (hfn:(s.fn H (ds ++gs))={results:=[.lit (.bool true)],args:=ds}) (hb:Below W.heap.size W W'):
  s.post enc P f false true false false W args (.bool true) W':=by
 have hlt:=hW.lt;have hW0:=hW;obtain⟨p,q,hA,hV,rfl,hfz,hnd⟩:=hW;rw[hsv]at hV;obtain⟨rfl,rfl⟩:=trodVars_none hV;have key:∀(ts:List TypeId) (vs:List Value) (ds:List (DataW H)) (p:List MemPlace),(∀t∈ts,P.readableRec t=true∧t<P.types.size)→(∀x∈p,x.block<W.heap.size)→
   DataW.TrodAll enc P W 0 (fun _=>true) true ts vs ds p→DataW.TrodAll enc P W' 0 (fun b=>decide (b<W.heap.size)) true ts vs ds p:=by
  intro ts
  induction ts with
  |nil=>intro vs ds p _ _ h;cases vs<;>cases ds<;>simp_all[DataW.TrodAll]
  |cons t ts ih=>
   intro vs ds p h1 h2 h
   cases vs with
   |nil=>simp[DataW.TrodAll]at h
   |cons v vs=>
    cases ds with
    |nil=>simp[DataW.TrodAll]at h
    |cons d ds=>
     obtain⟨p1,p2,h3,h4,rfl⟩:=h;have ht:=h1 t (by simp);exact⟨p1,p2,Below.trod hl ht.1 ht.2 h3 hb (fun x hx=>h2 x (by simp[hx])),ih vs ds p2 (fun t ht=>h1 t (by simp[ht])) (fun x hx=>h2 x (by simp[hx])) h4,rfl⟩
 refine⟨ds,[],_,[],p,[],hW0,?_,?_,?_,hb.frame _,fun h=>by cases h⟩
 ·rw[hfn,hrt];exact trodAll_mk1 (shut_bool htb true)
 ·rw[hfn];exact key _ _ _ _ hr (fun x hx=>hlt x (by simp[hx])) hA
 ·rw[hfn,hsv];rfl
end
section
variable{H:Type}{enc:TypeId×Value→H}{P:Program}{w:World}
theorem bulk_one(d:DataW H):1≤Rows.uptoBulk d:=by
 cases d with
 |lit l=>cases l<;>simp[Rows.uptoBulk]
 |nil=>simp[Rows.uptoBulk]
 |ptr d=>simp[Rows.uptoBulk]
 |slice elems spare=>simp[Rows.uptoBulk]
 |agg parts=>simp[Rows.uptoBulk]
 |iface t d=>simp[Rows.uptoBulk]
 |map entries=>simp[Rows.uptoBulk]
 |held h=>simp[Rows.uptoBulk]
theorem bulk_sum(D:Nat→DataW H)(c:Nat→Nat)(n:Nat)(h:∀i,i<n→c i≤Rows.uptoBulk (D i)):((List.range n).map c).sum≤Rows.uptoBulkAll ((List.range n).map D):=by
 have key:∀(l:List Nat),(∀i∈l,c i≤Rows.uptoBulk (D i))→(l.map c).sum≤Rows.uptoBulkAll (l.map D):=by
  intro l
  induction l with
  |nil=>intro _;simp[Rows.uptoBulkAll]
  |cons a r ih=>
   intro hl;have h1:=hl a (by simp);have h2:=ih (fun i hi=>hl i (by simp[hi]));simp only[List.map_cons,List.sum_cons,Rows.uptoBulkAll];omega
 exact key _ (fun i hi=>h i (by simpa using hi))
theorem read_sliceU{α:Type} [Inhabited α]{t e:TypeId}{size:Nat}(f:α→List Value)(Q:α→Prop)(c:α→Nat)(ht:P.underlying t=some (.slice e))(hc:P.cellsOf e=size)(hs:0<size)
  (hel:∀fuel cs x,Trd enc P w fuel e cs x→cs.length=size→∃a,cs=f a∧Q a∧c a≤Rows.uptoBulk x.1)
  {fuel:Nat} {cs:List Value} {x:DataW H×List MemPlace} (h:Trd enc P w fuel t cs x):
  ∃(v:Value) (l:List α),cs=[v]∧Row w v size l.length (l.flatMap f)∧(∀a∈l,Q a)∧(l.map c).sum+1≤Rows.uptoBulk x.1:=by
 rcases Deep.open_slice ht h with⟨rfl,rfl⟩|⟨a,len,cap,m,n,D,Pl,rfl,hb,hl,hm,hmm,rfl,hx⟩
 ·exact⟨_,[],rfl,⟨by simp,Nat.zero_le _,none,0,rfl,Nat.le_refl _,fun h=>by simp at h⟩,by simp,by simp[Rows.uptoBulk]⟩
 ·simp only[if_true]at hmm;subst hmm;have hel':∀i,i<len→∃y:α,(∀j,j<size→w.cell? (a.add (i*size+j))=(f y)[j]?)∧(f y).length=size∧Q y∧c y≤Rows.uptoBulk (D i):=by
   intro i hi;obtain⟨cs',h1,h2⟩:=hx i (by omega);rw[hc]at h1;obtain⟨-,h3,h4⟩:=World.cells?_some h1;obtain⟨y,rfl,hq,hcy⟩:=hel n cs' (D i,Pl i) h2 h3;refine⟨y,fun j hj=>?_,h3,hq,hcy⟩;rw[←Deep.add_add];exact h4 j hj
  obtain⟨F,hF⟩:=Deep.choose_lt hel';refine⟨_,(List.range len).map F,rfl,?_,?_,?_⟩
  ·have hlen:∀m,m≤len→(((List.range m).map F).flatMap f).length=m*size:=by
    intro m hm
    induction m with
    |zero=>simp
    |succ m ih=>
     rw[List.range_succ,Jq,List.flatMap_append,Jl,ih (by omega)];simp[(hF m (by omega)).2.1,Nat.add_mul]
   have hget:∀m,m≤len→∀j,j<m*size→w.cell? (a.add j)=(((List.range m).map F).flatMap f)[j]?:=by
    intro m hm
    induction m with
    |zero=>intro j hj;simp at hj
    |succ m ih=>
     intro j hj;rw[List.range_succ,Jq,List.flatMap_append]
     by_cases hjm:j<m*size
     ·rw[List.getElem?_append_left (by rw[hlen m (by omega)];exact hjm)];exact ih (by omega) j hjm
     ·rw[List.getElem?_append_right (by rw[hlen m (by omega)];omega),hlen m (by omega)];have:=(hF m (by omega)).1 (j-m*size) (by rw[Nat.add_mul]at hj;omega);rw[show m*size+(j-m*size)=j by omega]at this;simpa using this
   refine⟨by simp only[Jf,List.length_range];exact hlen len (Nat.le_refl _),by simp;omega,some a,m,by simp,by simpa using hl,fun hpos=>?_⟩;simp only[Jf,List.length_range]at hpos⊢;have h0:=hget len (Nat.le_refl _) 0 (Nat.mul_pos hpos hs);have hsome:(w.cell? (a.add 0)).isSome=true:=by
    rw[h0,Je (by rw[hlen len (Nat.le_refl _)];exact Nat.mul_pos hpos hs)];rfl
   obtain⟨b,off,spot⟩:=a;have hspot:spot=none:=by
    cases spot with
    |none=>rfl
    |some s=>
     unfold World.cell? Addr.add at hsome
     split at hsome<;>simp_all
   subst hspot;exact⟨b,off,rfl,fun j hj=>by rw[←Addr.add_lit];exact hget len (Nat.le_refl _) j hj⟩
  ·intro y hy;obtain⟨i,hi,rfl⟩:=List.mem_map.1 hy;exact(hF i (by simpa using hi)).2.2.1
  ·have:=bulk_sum D (fun i=>c (F i)) len (fun i hi=>(hF i hi).2.2.2);simp only[Rows.uptoBulk,List.map_map];have e:(List.map (c∘F) (List.range len))=List.map (fun i=>c (F i)) (List.range len):=rfl;rw[e];omega
theorem el_i64U{e:TypeId}(he:P.underlying e=some (.int .i64)):∀fuel cs (x:DataW H×List MemPlace),Trd enc P w fuel e cs x→cs.length=1→∃n:Int,cs=[.int .i64 n]∧ImgM.In64 n∧1≤Rows.uptoBulk x.1:=by
 intro fuel cs x h _;obtain⟨n,rfl,_,hw⟩:=DataW.trod_int he h;exact⟨n,rfl,wf_i64 hw,bulk_one _⟩
theorem trod_struct6{t:TypeId}{f0 f1 f2 f3 f4 f5:Field}{fuel:Nat}{cs:List Value}{x:DataW H×List MemPlace}(ht:P.underlying t=some (.struct #[f0,f1,f2,f3,f4,f5]))(h:Trd enc P w fuel t cs x):
  ∃y0 y1 y2 y3 y4 y5 n,x.1= .agg [y0.1,y1.1,y2.1,y3.1,y4.1,y5.1]∧cs.length=P.cellsOf t∧Trd enc P w n f0.type ((cs.drop f0.offset).take (P.cellsOf f0.type)) y0∧
   Trd enc P w n f1.type ((cs.drop f1.offset).take (P.cellsOf f1.type)) y1∧Trd enc P w n f2.type ((cs.drop f2.offset).take (P.cellsOf f2.type)) y2∧Trd enc P w n f3.type ((cs.drop f3.offset).take (P.cellsOf f3.type)) y3∧
   Trd enc P w n f4.type ((cs.drop f4.offset).take (P.cellsOf f4.type)) y4∧Trd enc P w n f5.type ((cs.drop f5.offset).take (P.cellsOf f5.type)) y5:=by
 obtain⟨xs,n,_,rfl,hl,hlen,hf⟩:=DataW.trod_struct ht h
 match xs,hlen with
 |[y0,y1,y2,y3,y4,y5],_=>exact⟨y0,y1,y2,y3,y4,y5,n,by simp,hl,by simpa using hf 0 f0 rfl,by simpa using hf 1 f1 rfl,by simpa using hf 2 f2 rfl,by simpa using hf 3 f3 rfl,by simpa using hf 4 f4 rfl,by simpa using hf 5 f5 rfl⟩
end
section
variable{H:Type}{enc:TypeId×Value→H}{w:World}
open Img
theorem cells_int:Tryz.prog.cellsOf 3=1:=by kernel_rfl
theorem cells_i64:Tryz.prog.cellsOf 2=1:=by kernel_rfl
theorem cells_ints:Tryz.prog.cellsOf 83=1:=by kernel_rfl
theorem cells_code:Tryz.prog.cellsOf 113=1:=by kernel_rfl
theorem cells_ins:Tryz.prog.cellsOf 126=3:=by kernel_rfl
theorem cells_box:Tryz.prog.cellsOf 90=2:=by kernel_rfl
theorem cells_unt:Tryz.prog.cellsOf 115=6:=by kernel_rfl
theorem cells_mod:Tryz.prog.cellsOf 25=2:=by kernel_rfl
theorem el_box:∀fuel cs (x:DataW H×List MemPlace),Trd enc Tryz.prog w fuel 90 cs x→cs.length=2→∃b:Int×Int,cs=boxC b∧(ImgM.In64 b.1∧ImgM.In64 b.2)∧2≤Rows.uptoBulk x.1:=by
 intro fuel cs x h hlen;obtain⟨y0,y1,n,rfl,_,hy0,hy1⟩:=trod_struct2 Tryz.underlying90 h
 match cs,hlen with
 |[c0,c1],_=>
  have e0:([c0,c1].drop 0).take (Tryz.prog.cellsOf 3)=[c0]:=by rw[cells_int];rfl
  have e1:([c0,c1].drop 1).take (Tryz.prog.cellsOf 3)=[c1]:=by rw[cells_int];rfl
  simp only[e0,e1]at hy0 hy1;obtain⟨a,ha,wa,ba⟩:=el_i64U Tryz.underlying3 _ _ _ hy0 rfl;obtain⟨b,hb,wb,bb⟩:=el_i64U Tryz.underlying3 _ _ _ hy1 rfl;simp at ha hb;exact⟨(a,b),by rw[ha,hb];rfl,⟨wa,wb⟩,by simp only[Rows.uptoBulk,Rows.uptoBulkAll];omega⟩
theorem el_ins:∀fuel cs (x:DataW H×List MemPlace),Trd enc Tryz.prog w fuel 126 cs x→cs.length=3→∃i:ImgM.Ins,cs=insC i∧(ImgM.In64 i.op∧ImgM.In64 i.a∧ImgM.In64 i.n)∧3≤Rows.uptoBulk x.1:=by
 intro fuel cs x h hlen;obtain⟨y0,y1,y2,n,rfl,_,hy0,hy1,hy2⟩:=Go.Deep.trod_struct3 Tryz.underlying126 h
 match cs,hlen with
 |[c0,c1,c2],_=>
  have e0:([c0,c1,c2].drop 0).take (Tryz.prog.cellsOf 3)=[c0]:=by rw[cells_int];rfl
  have e1:([c0,c1,c2].drop 1).take (Tryz.prog.cellsOf 3)=[c1]:=by rw[cells_int];rfl
  have e2:([c0,c1,c2].drop 2).take (Tryz.prog.cellsOf 2)=[c2]:=by rw[cells_i64];rfl
  simp only[e0,e1,e2]at hy0 hy1 hy2;obtain⟨a,ha,wa,ba⟩:=el_i64U Tryz.underlying3 _ _ _ hy0 rfl;obtain⟨b,hb,wb,bb⟩:=el_i64U Tryz.underlying3 _ _ _ hy1 rfl;obtain⟨c,hc,wc,bc⟩:=el_i64U Tryz.underlying2 _ _ _ hy2 rfl;simp at ha hb hc;exact⟨⟨a,b,c⟩,by rw[ha,hb,hc];rfl,⟨wa,wb,wc⟩,by simp only[Rows.uptoBulk,Rows.uptoBulkAll];omega⟩
def UcIs(w:World)(x:UC):Prop:=
 Row w (.slice x.lo x.u.locals.length x.lc) (sz i64c) x.u.locals.length (x.u.locals.flatMap i64c)∧Row w (.slice x.co x.u.code.length x.cc) (sz insC) x.u.code.length (x.u.code.flatMap insC)∧UWf x.u
theorem el_uc:∀fuel cs (x:DataW H×List MemPlace),Trd enc Tryz.prog w fuel 115 cs x→cs.length=6→∃y:UC,cs=ucell y∧UcIs w y∧0≤Rows.uptoBulk x.1:=by
 intro fuel cs x h hlen;obtain⟨y0,y1,y2,y3,y4,y5,n,hx,_,hy0,hy1,hy2,hy3,hy4,hy5⟩:=trod_struct6 Tryz.underlying115 h
 match cs,hlen with
 |[c0,c1,c2,c3,c4,c5],_=>
  have e0:([c0,c1,c2,c3,c4,c5].drop 0).take (Tryz.prog.cellsOf 3)=[c0]:=by rw[cells_int];rfl
  have e1:([c0,c1,c2,c3,c4,c5].drop 1).take (Tryz.prog.cellsOf 3)=[c1]:=by rw[cells_int];rfl
  have e2:([c0,c1,c2,c3,c4,c5].drop 2).take (Tryz.prog.cellsOf 83)=[c2]:=by rw[cells_ints];rfl
  have e3:([c0,c1,c2,c3,c4,c5].drop 3).take (Tryz.prog.cellsOf 3)=[c3]:=by rw[cells_int];rfl
  have e4:([c0,c1,c2,c3,c4,c5].drop 4).take (Tryz.prog.cellsOf 3)=[c4]:=by rw[cells_int];rfl
  have e5:([c0,c1,c2,c3,c4,c5].drop 5).take (Tryz.prog.cellsOf 113)=[c5]:=by rw[cells_code];rfl
  simp only[e0,e1,e2,e3,e4,e5]at hy0 hy1 hy2 hy3 hy4 hy5;obtain⟨a,ha,wa,ba⟩:=el_i64U Tryz.underlying3 _ _ _ hy0 rfl;obtain⟨b,hb,wb,bb⟩:=el_i64U Tryz.underlying3 _ _ _ hy1 rfl;obtain⟨c,hc,wc,bc⟩:=el_i64U Tryz.underlying3 _ _ _ hy3 rfl;obtain⟨d,hd,wd,bd⟩:=el_i64U Tryz.underlying3 _ _ _ hy4 rfl;obtain⟨lv,ls,hlv,hl1,hl2,hl3⟩:=read_sliceU i64c ImgM.In64 (fun _=>1) Tryz.underlying83 cells_int (by decide) (el_i64U Tryz.underlying3) hy2;obtain⟨cv,is,hcv,hc1,hc2,hc3⟩:=read_sliceU insC _ (fun _=>3) Tryz.underlying113 cells_ins (by decide) el_ins hy5;simp only[List.cons.injEq,and_true]at ha hb hc hd hlv hcv;subst ha hb hc hd hlv hcv;obtain⟨-, -,lo,lc,rfl, -⟩:=id hl1;obtain⟨-, -,co,cc,rfl, -⟩:=id hc1;exact⟨⟨⟨a,b,ls,c,d,is⟩,lo,lc,co,cc⟩,rfl,⟨hl1,hc1,⟨wa,wb,hl2,wc,wd,hc2⟩⟩,Nat.zero_le _⟩
theorem read_md{base:Nat}{v:Value}(hok:Value.okWide Tryz.prog w .any base 25 v){d:DataW H}{p:List MemPlace}(h:DataW.Trod enc Tryz.prog w 0 (fun _=>true) true 25 v d p):
  ∃m:ML,v=m.val∧MdAt w m∧m.Wf:=by
 obtain⟨c0,c1,y0,y1,k,rfl,rfl,rfl,hy0,hy1⟩:=Go.Joins.open_agg2 Tryz.underlying25 (by kernel_rfl) cells_mod hok h;obtain⟨bv,bs,hbv,hb1,hb2,hb3⟩:=read_sliceU boxC _ (fun _=>2) Tryz.underlying22 cells_box (by decide) el_box hy0;obtain⟨uv,us,huv,hu1,hu2,hu3⟩:=read_sliceU ucell (UcIs w) (fun _=>0) Tryz.underlying23 cells_unt (by decide) el_uc hy1;simp only[List.cons.injEq,and_true]at hbv huv;subst hbv huv;obtain⟨-, -,bo,bc,rfl, -⟩:=id hb1;obtain⟨-, -,uo,uc,rfl, -⟩:=id hu1;exact⟨⟨bs,bo,bc,us,uo,uc⟩,rfl,⟨hb1,hu1,fun x hx=>(hu2 x hx).1,fun x hx=>(hu2 x hx).2.1⟩,⟨hb2,fun x hx=>(hu2 x hx).2.2⟩⟩
end
section
variable{H:Type}{enc:TypeId×Value→H}{P:Program}{w:World}{base:Nat}{spare:Nat→Bool}{held:Bool}
end
section
variable{H:Type}{enc:TypeId×Value→H}{w:World}
end
section
variable{H:Type}{enc:TypeId×Value→H}{w:World}
theorem cells_pick:Tryz.prog.cellsOf 67=2:=by kernel_rfl
theorem el_pick:∀fuel cs (x:DataW H×List MemPlace),Trd enc Tryz.prog w fuel 67 cs x→cs.length=2→∃y:Int×Int,cs=Vw.pkC y∧(ImgM.In64 y.1∧ImgM.In64 y.2)∧0≤Rows.uptoBulk x.1:=by
 intro fuel cs x h hlen;obtain⟨y0,y1,n,rfl,_,hy0,hy1⟩:=trod_struct2 Tryz.underlying67 h
 match cs,hlen with
 |[c0,c1],_=>
  have e0:([c0,c1].drop 0).take (Tryz.prog.cellsOf 3)=[c0]:=by rw[cells_int];rfl
  have e1:([c0,c1].drop 1).take (Tryz.prog.cellsOf 3)=[c1]:=by rw[cells_int];rfl
  simp only[e0,e1]at hy0 hy1;obtain⟨a,ha,wa,ba⟩:=el_i64U Tryz.underlying3 _ _ _ hy0 rfl;obtain⟨b,hb,wb,bb⟩:=el_i64U Tryz.underlying3 _ _ _ hy1 rfl;simp at ha hb;exact⟨⟨a,b⟩,by rw[ha,hb];rfl,⟨wa,wb⟩,Nat.zero_le _⟩
theorem read_pk{base:Nat}{v:Value}(hok:Value.okWide Tryz.prog w .any base 26 v){d:DataW H}{p:List MemPlace}(h:DataW.Trod enc Tryz.prog w 0 (fun _=>true) true 26 v d p)(hf:Fits Tryz.prog 26 d):
  ∃f:Vw.PkL,v=f.val∧Row w (.slice f.o f.l.length f.c) (sz Vw.pkC) f.l.length (f.l.flatMap Vw.pkC)∧f.l.length*16≤140737488351232:=by
 obtain⟨fuel,h⟩:=h;obtain⟨v',l,hv,h1, -,h2, -⟩:=read_slice Vw.pkC (fun y=>ImgM.In64 y.1∧ImgM.In64 y.2) Tryz.underlying26 cells_pick (by decide) (fun fuel cs x h _ hl=>by obtain⟨y,a,b,_⟩:=el_pick fuel cs x h hl;exact⟨y,a,b⟩) h hf;obtain⟨a,n,c,rfl⟩:=okWide_slice Tryz.underlying26 hok;have e:Value.slice a n c=v':=by simpa[Value.cells]using hv
 rw[show Tryz.prog.bytesOf 67=16 by kernel_rfl]at h2;obtain⟨-, -,ao,cap,rfl, -⟩:=id h1;exact⟨⟨ao,cap,l⟩,e,h1,h2⟩
end
end Go.Proofs.YtjehflelkpacfaaGreat
