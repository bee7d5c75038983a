/- The document's machine: can a task go on, a pick of a task: walked. -/
import Derived.Test.YtjehflelkpacfaaGreatM23
set_option linter.unusedVariables false
set_option linter.unusedSimpArgs false
set_option linter.unusedSectionVars false
set_option maxRecDepth 100000
namespace Go.Proofs.YtjehflelkpacfaaGreat.Vw
open Go.RowKit Go.Proofs.YtjehflelkpacfaaGreat.Img
section
attribute [local irreducible] Run Cod End OpT Still RunQ RunS RunT Fn PutOk
variable{T:Nat→Int→Option Ver.Shape}
abbrev KW(M:ImgM.Mdl)(p:WxP):(wxEnv M p).ν×List Vm.Ev→Prop:=fun s=>Vm.KB M s.1
theorem can_is(m:ML)(p:WxP)(ab:Nat)(to:Option Addr)(tc:Nat)(tbs:List Nat)(n k tb:Nat)(hk:k<tbs.length)(htb:tbs.getD k 0=tb)(z:RT (wxEnv m.mdl p))(hz:z.Wf)(hst:z.st≤3→Vm.StandT m.mdl z.tk):
  Fn Tryz.prog 25 #[ptr ab, .int .i64 (k:Int)] [md m,wxR p] (blk ab (alC to tbs.length tc p.bb n) 76::arr to tbs.length tc 72 ptrC tbs::RM tb m z) (σ:=Unit) (fun _=>True) (fun _=> .bool (decide ((z.look m).st=1))) (fun _=>blk ab (alC to tbs.length tc p.bb n) 76::arr to tbs.length tc 72 ptrC tbs::RM tb m (z.look m)):=by
 refine Fn.enter (args:=[ptr ab, .int .i64 (k:Int)]) Tryz.func25 rfl _ Tryz.ntmps25 rfl (by simp[md_excl,rd_excl]) (fun w S=>?_);(refine Jn ?_);have htb':tbs.getD k default=tb:=htb
 repeat(refine Jy ?_;try first|intro ao cap|intro b)
 rw[htb']
 repeat(refine Jy ?_;try first|intro ao cap|intro b)
 refine RunS.val_ (h:=by exact Still.mkIface (t:=0) rfl rfl) (k:=?_)
 repeat(refine Jy ?_;try first|intro ao cap|intro b)
 (refine Jc ?_;refine OpT.call0_ (spec:=look9_is (E:=wxEnv m.mdl p) tb m rfl z hz hst) (r:=(fun w=>Reads.md (tk) (Reads.any (tk) (wxR_excl p) .nil))) (k:=?_);intro s hs;(refine Jn ?_))
 repeat(refine Jy ?_;try first|intro ao cap|intro b)
 rw[htb']
 repeat(refine Jy ?_;try first|intro ao cap|intro b)
 (refine End.done1_ (()) (he:=Jv) (hp:=?_));trivial
set_option maxHeartbeats 2000000 in
theorem pick9_is(m:ML)(p:WxP)(ab:Nat)(to:Option Addr)(tc:Nat)(tbs:List Nat)(n k tb:Nat)(q:Int)(hk:k<tbs.length)(htb:tbs.getD k 0=tb)(z:RT (wxEnv m.mdl p))(hC:Vm.Certs m.mdl T)(hz:z.Wf)
  (hg:Vm.Good m.mdl T (KW m.mdl p) z.two) (hn:n≤20000) (ho:z.out.length≤2*n) (hlg:z.log.length≤2*n) (htl:tbs.length≤1000):
  Fn Tryz.prog 19 #[ptr ab, .agg #[.int .i64 (k:Int), .int .i64 q]] [md m,wxR p] (blk ab (alC to tbs.length tc p.bb n) 76::arr to tbs.length tc 72 ptrC tbs::RM tb m z) (σ:=RT (wxEnv m.mdl p))
   (GivesR (Vm.pick1 (wxEnv m.mdl p).W m.mdl n q z.two).2) (fun _=> .agg #[.int .i64 (Vm.pick1 (wxEnv m.mdl p).W m.mdl n q z.two).1.1, .int .i64 ((Vm.pick1 (wxEnv m.mdl p).W m.mdl n q z.two).1.2:Int)])
   (fun z'=>blk ab (alC to tbs.length tc p.bb (n+(Vm.pick1 (wxEnv m.mdl p).W m.mdl n q z.two).1.2)) 76::arr to tbs.length tc 72 ptrC tbs::RM tb m z'):=by
 have hV:=ok_W (E:=wxEnv m.mdl p) (Vm.bxs_ok m.mdl none);obtain⟨R,hR⟩:∃R,R=Vm.pick1 (wxEnv m.mdl p).W m.mdl n q z.two:=⟨_,rfl⟩;rw[←hR];refine Fn.enter (args:=[ptr ab, .agg #[.int .i64 (k:Int), .int .i64 q]]) Tryz.func19 rfl _ Tryz.ntmps19 rfl (by simp[md_excl,rd_excl]) (fun w S=>?_);(refine Jn ?_)
 repeat(refine Jy ?_;try first|intro ao cap|intro b)
 obtain⟨rb,rfl⟩:∃x,x=b:=⟨_,rfl⟩;obtain⟨pb,rfl⟩:∃x,x=b:=⟨_,rfl⟩
 by_cases q1:q<1
 ·have hR':R=((5,0),z.two):=by rw[hR];unfold Vm.pick1;rw[if_pos (.inl q1)]
  subst hR'
  repeat(refine Jy ?_;try first|intro ao cap|intro b)
  (refine End.doneC1_ (z) (he:=Jv) (hp:=?_));exact⟨hz,rfl⟩
 by_cases q2:10000<q
 ·have hR':R=((5,0),z.two):=by rw[hR];unfold Vm.pick1;rw[if_pos (.inr q2)]
  subst hR'
  repeat(refine Jy ?_;try first|intro ao cap|intro b)
  (refine End.doneC1_ (z) (he:=Jv) (hp:=?_));exact⟨hz,rfl⟩
 have hq12:¬(q<1∨10000<q):=by omega
 repeat(refine Jy ?_;try first|intro ao cap|intro b)
 (refine Jc ?_;refine OpT.call0_ (spec:=can_is m p ab to tc tbs n k tb hk htb z hz (stand_good hC hg)) (r:=(fun w=>Reads.md (tk) (Reads.any (tk) (wxR_excl p) .nil))) (k:=?_);intro s hs;(refine Jn ?_))
 by_cases h1:(z.look m).st=1
 ·have hR':R=(if(Vm.goN (wxEnv m.mdl p).W m.mdl (min q.toNat (20000-n)) (z.look m).two).1=0 then(10,0)else(0,(Vm.goN (wxEnv m.mdl p).W m.mdl (min q.toNat (20000-n)) (z.look m).two).1),(Vm.goN (wxEnv m.mdl p).W m.mdl (min q.toNat (20000-n)) (z.look m).two).2):=by
   rw[hR];unfold Vm.pick1;rw[if_neg hq12,←hz.look_two,if_neg (fun h=>h h1)]
  obtain⟨lim,hlim⟩:∃lim,lim=min q.toNat (20000-n):=⟨_,rfl⟩;rw[←hlim]at hR';obtain⟨G,hG⟩:∃G,G=Vm.goN (wxEnv m.mdl p).W m.mdl lim (z.look m).two:=⟨_,rfl⟩;rw[←hG]at hR'
  by_cases hn2:20000≤n
  ·have hG0:G=(0,(z.look m).two):=by
    rw[hG,show lim=0 by omega];rfl
   rw[hG0]at hR';dsimp only at hR';rw[if_pos rfl]at hR';subst hR'
   repeat(refine Jy ?_;try first|intro ao cap|intro b)
   (refine End.doneC1_ ((z.look m)) (he:=Jv) (hp:=?_));exact⟨hz.look m,rfl⟩
  ·have hG1:¬G.1=0:=by
    have hs1:(Vm.look (wxEnv m.mdl p).W m.mdl (z.look m).two).1.st=1:=by rw[hz.look_two,Vm.look_look,←hz.look_two];exact h1
    obtain⟨l,hl⟩:∃l,lim=l+1:=⟨lim-1,by omega⟩;rw[hG,hl];unfold Vm.goN;rw[Vm.step_yes _ m.mdl hs1,if_pos rfl];dsimp only;omega
   rw[if_neg hG1]at hR';subst hR'
   repeat(refine Jy ?_;try first|intro ao cap|intro b)
   obtain⟨db,rfl⟩:∃x,x=b:=⟨_,rfl⟩;refine cutN (σ:=Nat×RT (wxEnv m.mdl p)) (fun s=>s.2.Wf∧G=(s.1,s.2.two)) (fun s=>[(4,ptr rb),(5,ptr db)]) (fun s=>old w S::md m::wxR p::blk rb [.int .i64 0, .int .i64 0] 42::blk db [.int .i64 0, .int .i64 (s.1:Int)] 42::blk ab (alC to tbs.length tc p.bb (n+s.1)) 76::arr to tbs.length tc 72 ptrC tbs::RM tb m s.2) ?_ ?_
   ·rintro⟨j,z'⟩ ⟨g1,g2⟩;dsimp only at g1 g2⊢;rw[g2]
    repeat(refine Jy ?_;try first|intro ao cap|intro b)
    (refine End.doneC1_ (z') (he:=Jv) (hp:=?_));exact⟨g1,rfl⟩
   intro K3 hK3;refine Cod.only ((fun(s:Nat×RT (wxEnv m.mdl p))=>old w S::md m::wxR p::blk pb [.int .i64 (k:Int), .int .i64 q] 67::blk rb [.int .i64 0, .int .i64 0] 42::blk db [.int .i64 0, .int .i64 (s.1:Int)] 42::blk ab (alC to tbs.length tc p.bb (n+s.1)) 76::arr to tbs.length tc 72 ptrC tbs::RM tb m s.2) (0,z.look m)) (tks) ?_;apply Cod.loop (σ:=Nat×RT (wxEnv m.mdl p)) (fun s=>s.1≤lim∧s.2.Wf∧Vm.Good m.mdl T (KW m.mdl p) s.2.two∧s.2.out.length≤2*(n+s.1)∧s.2.log.length≤2*(n+s.1)∧G=((Vm.goN (wxEnv m.mdl p).W m.mdl (lim-s.1) s.2.two).1+s.1,(Vm.goN (wxEnv m.mdl p).W m.mdl (lim-s.1) s.2.two).2)) (fun s=>[(0,ptr ab),(3,ptr pb),(4,ptr rb),(5,ptr db)]) (fun(s:Nat×RT (wxEnv m.mdl p))=>old w S::md m::wxR p::blk pb [.int .i64 (k:Int), .int .i64 q] 67::blk rb [.int .i64 0, .int .i64 0] 42::blk db [.int .i64 0, .int .i64 (s.1:Int)] 42::blk ab (alC to tbs.length tc p.bb (n+s.1)) 76::arr to tbs.length tc 72 ptrC tbs::RM tb m s.2) (fun s=>lim-s.1) (0,z.look m)
   rotate_left
   exact sb;exact tks;intro s hs K1 hK1;(refine Jn ?_)
   rotate_left
   ·refine⟨Nat.zero_le _,hz.look m,by rw[hz.look_two];exact Vm.look_good hg,?_,?_,by rw[hG];simp⟩
    ·show(z.look m).out.length≤_;rw[look_out];exact ho
    ·show(z.look m).log.length≤_;rw[look_log];exact hlg
   obtain⟨j,y⟩:=s;obtain⟨r1,r2,r3,r4,r5,r6⟩:=hs;dsimp only at r1 r2 r3 r4 r5 r6 hK1⊢
   by_cases hjq:(j:Int)<q
   ·by_cases hjn:n+j<20000
    ·have hjl:j<lim:=by omega
     have hmk:lim-j=(lim-(j+1))+1:=by omega
     rw[hmk]at r6;unfold Vm.goN at r6
     repeat(refine Jy ?_;try first|intro ao cap|intro b)
     (refine Jc ?_;refine OpT.call0_ (spec:=can_is m p ab to tc tbs (n+j) k tb hk htb y r2 (stand_good hC r3)) (r:=(fun w=>Reads.md (tk) (Reads.any (tk) (wxR_excl p) .nil))) (k:=?_);intro s hs;(refine Jn ?_))
     by_cases hy1:(y.look m).st=1
     ·have hyt:(Vm.look (wxEnv m.mdl p).W m.mdl y.two).1.st=1:=by rw[←r2.look_two];exact hy1
      have hst:(Vm.step (wxEnv m.mdl p).W m.mdl y.two).1=true:=by rw[Vm.step_yes _ m.mdl hyt]
      rw[if_pos hst]at r6;have hgl:Vm.Good m.mdl T (KW m.mdl p) (y.look m).two:=by rw[r2.look_two];exact Vm.look_good r3
      have hstep:=stepR_is (E:=wxEnv m.mdl p) tb (y.look m) hC hV (r2.look m) rfl hgl (by rw[look_log];omega) (by rw[look_out];omega) (Nat.zero_le _);unfold StepF at hstep;rw[r2.look_two,Vm.step_look]at hstep;rw[hst]at hstep
      repeat(refine Jy ?_;try first|intro ao cap|intro b)
      rw[show tbs.getD k default=tb from htb]
      repeat(refine Jy ?_;try first|intro ao cap|intro b)
      refine RunS.val_ (h:=by exact Still.mkIface (t:=0) rfl rfl) (k:=?_)
      repeat(refine Jy ?_;try first|intro ao cap|intro b)
      (refine Jc ?_;refine OpT.call0_ (spec:=hstep) (r:=(fun w=>Reads.md (tk) (Reads.any (tk) (wxR_excl p) .nil))) (k:=?_);intro s hs;(refine Jn ?_));obtain⟨y',rfl⟩:∃x,x=s:=⟨_,rfl⟩;obtain⟨s1,s2⟩:=hs
      repeat(refine Jy ?_;try first|intro ao cap|intro b)
      refine End.round0_ hK1 (j+1,y') ?_ ?_
      ·refine⟨by omega,s1,by rw[s2];exact Vm.step_good hC hV r3,?_,?_,?_⟩
       ·have h1:=Vm.step_outLen (V:=(wxEnv m.mdl p).W) (M:=m.mdl) y.two;have h2:y'.out=(Vm.step (wxEnv m.mdl p).W m.mdl y.two).2.1.out:=congrArg (fun r=>r.1.out) s2;rw[h2];have h3:y.two.1.out.length≤2*(n+j):=r4;dsimp only;omega
       ·have h1:=Vm.evs_len (V:=Vm.bxs m.mdl none) (M:=m.mdl) (y.tk,wxAbs y.e);obtain⟨-, -, -,h4⟩:=Vm.stepW (E:=wxEnv m.mdl p) (wx_tell m.mdl p) (M:=m.mdl) y.tk (wxAbs y.e) y.log;have h2:y'.log=y.log ++Vm.evs (Vm.bxs m.mdl none) m.mdl (y.tk,wxAbs y.e):=(congrArg (fun r=>r.2.2) s2).trans h4;dsimp only;rw[h2,Jl];omega
       ·rw[r6,s2];refine Prod.ext ?_ rfl;dsimp only;omega
      ·dsimp only;omega
     ·have hyt:¬(Vm.look (wxEnv m.mdl p).W m.mdl y.two).1.st=1:=by rw[←r2.look_two];exact hy1
      have hst:=Vm.step_no (wxEnv m.mdl p).W m.mdl hyt;rw[hst,if_neg (by simp)]at r6
      repeat(refine Jy ?_;try first|intro ao cap|intro b)
      refine End.some_ hK3 (j,y.look m) ?_;exact⟨r2.look m,by rw[r6,r2.look_two];exact Prod.ext (by simp) rfl⟩
    ·have hl:lim-j=0:=by omega
     repeat(refine Jy ?_;try first|intro ao cap|intro b)
     refine End.some_ hK3 (j,y) ?_;refine⟨r2,?_⟩;rw[r6,hl];exact Prod.ext (by simp[Vm.goN]) rfl
   ·have hl:lim-j=0:=by omega
    repeat(refine Jy ?_;try first|intro ao cap|intro b)
    refine End.some_ hK3 (j,y) ?_;refine⟨r2,?_⟩;rw[r6,hl];exact Prod.ext (by simp[Vm.goN]) rfl
 ·have hR':R=((11,0),(z.look m).two):=by
   rw[hR];unfold Vm.pick1;rw[if_neg hq12,←hz.look_two,if_pos (show(z.look m).two.1.st≠1 from h1)]
  subst hR'
  repeat(refine Jy ?_;try first|intro ao cap|intro b)
  (refine End.doneC1_ ((z.look m)) (he:=Jv) (hp:=?_));exact⟨hz.look m,rfl⟩
theorem pick9Out_is(ab:Nat)(to:Option Addr)(tc tn bb n:Nat)(k q:Int)(hk:k<0∨(tn:Int)≤k):
  Fn Tryz.prog 19 #[ptr ab, .agg #[.int .i64 k, .int .i64 q]] [] [blk ab (alC to tn tc bb n) 76] (σ:=Unit) (fun _=>True) (fun _=> .agg #[.int .i64 3, .int .i64 0]) (fun _=>[blk ab (alC to tn tc bb n) 76]):=by
 refine JE [ptr ab, .agg #[.int .i64 k, .int .i64 q]] Tryz.func19 Tryz.ntmps19 fun w S=>?_
 (refine Jn ?_)
 by_cases h0:k<0
 ·repeat(refine Jy ?_;try first|intro ao cap|intro b)
  (refine End.doneC1_ (()) (he:=Jv) (hp:=?_));trivial
 ·repeat(refine Jy ?_;try first|intro ao cap|intro b)
  (refine End.doneC1_ (()) (he:=Jv) (hp:=?_));trivial
end
section
attribute [local irreducible] Run Cod End OpT Still RunQ RunS RunT Fn PutOk
variable(E:EnvM)
def wst(i:ImgM.Ins)(v:E.ν):Int:=if i.op=26∧E.V.full v i.a.toNat=true then 2 else if i.op=27∧E.V.empty v i.a.toNat=true then 3 else 1
def wbx(i:ImgM.Ins)(v:E.ν):Int:=if i.op=26∧E.V.full v i.a.toNat=true then i.a else if i.op=27∧E.V.empty v i.a.toNat=true then i.a else 0
theorem waits_is(F:TF)(st tr:Int)(e:E.μ)(he:E.ok e)(i:ImgM.Ins)(hb:i.op=26∨i.op=27→0≤i.a∧i.a.toNat<E.boxes):Fn Tryz.prog 43 #[ptr F.tb,insV i] [E.rc] [E.tc F st tr,E.mem e] (σ:=Unit) (fun _=>True) (fun _=> .bool (!decide (wst E i (E.abs e)=1))) (fun _=>[E.tc ⟨F.tb,F.mb,F.cos,F.cb,wbx E i (E.abs e),F.out⟩ (wst E i (E.abs e)) tr,E.mem e]):=by
 refine JE [ptr F.tb,insV i] Tryz.func43 Tryz.ntmps43 fun w S=>?_
 (refine Jn ?_)
 by_cases h26:i.op=26
 ·obtain⟨ha,hlt⟩:=hb (.inl h26);have hf:=E.full e i.a.toNat he hlt;rw[Jo' ha]at hf
  repeat(refine Jy ?_;try first|intro ao cap|intro b)
  (refine Jc ?_;refine OpT.callM_ (E.mFull) (E.bFull) (hf) (r:=fun w=>Reads.any (tk) E.rexcl .nil) (k:=?_);intro s hs;(refine Jn ?_))
  cases hv:E.V.full (E.abs e) i.a.toNat with
  |true=>
   have e1:wst E i (E.abs e)=2:=by unfold wst;rw[if_pos ⟨h26,hv⟩]
   have e2:wbx E i (E.abs e)=i.a:=by unfold wbx;rw[if_pos ⟨h26,hv⟩]
   rw[e1,e2]
   repeat(refine Jy ?_;try first|intro ao cap|intro b)
   apply Cod.draw 9 ([blk b (insC i) 126]) (by kernel_rfl) 10 rfl;refine JR 0 ?_;refine JR 1 ?_;refine JR 2 ?_;refine JR 3 ?_;refine JR 4 ?_;refine JR 5 ?_;(refine JT 6 ?_;(first|refine Jw ?_|(refine Jb ?_;intro b)|(refine Ja ?_;intro ao cap));refine JG ?_);refine JR 7 ?_;refine JR 8 ?_;(refine JT 9 ?_;(first|refine Jw ?_|(refine Jb ?_;intro b)|(refine Ja ?_;intro ao cap));refine JG ?_);(apply RunT.done;kernel_rfl)
   repeat(refine Jy ?_;try first|intro ao cap|intro b)
   (refine End.done1_ (()) (he:=Jv) (hp:=?_));trivial
  |false=>
   have e1:wst E i (E.abs e)=1:=by unfold wst;rw[if_neg (by rw[hv];simp),if_neg (by omega)]
   have e2:wbx E i (E.abs e)=0:=by unfold wbx;rw[if_neg (by rw[hv];simp),if_neg (by omega)]
   rw[e1,e2]
   repeat(refine Jy ?_;try first|intro ao cap|intro b)
   (refine End.done1_ (()) (he:=Jv) (hp:=?_));trivial
 ·by_cases h27:i.op=27
  ·obtain⟨ha,hlt⟩:=hb (.inr h27);have hf:=E.empty e i.a.toNat he hlt;rw[Jo' ha]at hf
   repeat(refine Jy ?_;try first|intro ao cap|intro b)
   (refine Jc ?_;refine OpT.callM_ (E.mEmpty) (E.bEmpty) (hf) (r:=fun w=>Reads.any (tk) E.rexcl .nil) (k:=?_);intro s hs;(refine Jn ?_))
   cases hv:E.V.empty (E.abs e) i.a.toNat with
   |true=>
    have e1:wst E i (E.abs e)=3:=by unfold wst;rw[if_neg (by omega),if_pos ⟨h27,hv⟩]
    have e2:wbx E i (E.abs e)=i.a:=by unfold wbx;rw[if_neg (by omega),if_pos ⟨h27,hv⟩]
    rw[e1,e2]
    repeat(refine Jy ?_;try first|intro ao cap|intro b)
    apply Cod.draw 9 ([blk b (insC i) 126]) (by kernel_rfl) 10 rfl;refine JR 0 ?_;refine JR 1 ?_;refine JR 2 ?_;refine JR 3 ?_;refine JR 4 ?_;refine JR 5 ?_;(refine JT 6 ?_;(first|refine Jw ?_|(refine Jb ?_;intro b)|(refine Ja ?_;intro ao cap));refine JG ?_);refine JR 7 ?_;refine JR 8 ?_;(refine JT 9 ?_;(first|refine Jw ?_|(refine Jb ?_;intro b)|(refine Ja ?_;intro ao cap));refine JG ?_);(apply RunT.done;kernel_rfl)
    repeat(refine Jy ?_;try first|intro ao cap|intro b)
    (refine End.done1_ (()) (he:=Jv) (hp:=?_));trivial
   |false=>
    have e1:wst E i (E.abs e)=1:=by unfold wst;rw[if_neg (by omega),if_neg (by rw[hv];simp)]
    have e2:wbx E i (E.abs e)=0:=by unfold wbx;rw[if_neg (by omega),if_neg (by rw[hv];simp)]
    rw[e1,e2]
    repeat(refine Jy ?_;try first|intro ao cap|intro b)
    (refine End.done1_ (()) (he:=Jv) (hp:=?_));trivial
  ·have e1:wst E i (E.abs e)=1:=by unfold wst;rw[if_neg (by omega),if_neg (by omega)]
   have e2:wbx E i (E.abs e)=0:=by unfold wbx;rw[if_neg (by omega),if_neg (by omega)]
   rw[e1,e2]
   repeat(refine Jy ?_;try first|intro ao cap|intro b)
   (refine End.done1_ (()) (he:=Jv) (hp:=?_));trivial
end
section
attribute [local irreducible] Run Cod End OpT Still RunQ RunS RunT Fn PutOk
variable{E:EnvM}
abbrev SL.f(s:SL E):Vm.Fr:=s.cur.fr.getD (s.cur.fr.length-1) default
abbrev insL(m:ML)(s:SL E):ImgM.Ins:=(m.us.getD s.f.unit default).u.code.getD s.f.pc default
structure Stands(m:ML)(s:SL E):Prop where
 fr:s.cur.fr≠[]
 few:s.cur.fr.length≤40
 unit:s.f.unit<m.us.length
 pc:s.f.pc<(m.us.getD s.f.unit default).u.code.length
 box:(insL m s).op=26∨(insL m s).op=27→0≤(insL m s).a∧(insL m s).a.toNat<E.boxes
theorem look_is'(p:Pl)(s:SL E)(he:E.ok s.e)(st bx:Int)(h4:3<s.st→st=s.st∧bx=s.bx)(h3:s.st≤3→Stands p.m s∧st=wst E (insL p.m s) (E.abs s.e)∧bx=wbx E (insL p.m s) (E.abs s.e)):
  Fn Tryz.prog 30 #[ptr p.tb] [md p.m,E.rc] [tkM p s,moM p,ccM s.cur,frM s.cur,E.mem s.e] (σ:=Unit) (fun _=>True) (fun _=> .tuple #[]) (fun _=>[tkM p {s with st:=st,bx:=bx},moM p,ccM s.cur,frM s.cur,E.mem s.e]):=by
 refine JE [ptr p.tb] Tryz.func30 Tryz.ntmps30 fun w S=>?_
 (refine Jn ?_)
 by_cases hst:s.st≤3
 ·obtain⟨hs0,e1,e2⟩:=h3 hst;obtain⟨g1,g2,g3,g4,g5⟩:=hs0;have hl:0<s.cur.fr.length:=JP.2 g1;have w1:IntKind.i64.wrap ((s.cur.fr.length:Int)-1)=((s.cur.fr.length-1:Nat):Int):=by rw[wrap_i64_in (by omega)];omega
  repeat(refine Jy ?_;try first|intro ao cap|intro b)
  (refine Jc ?_;refine OpT.call0_ (spec:=waits_is E ⟨p.tb,p.mb, .slice s.co s.bs.length s.ccap,s.cur.cb,s.bx, .slice s.oo s.out.length s.oc⟩ s.st s.tr s.e he (insL p.m s) g5) (r:=fun w=>Reads.any (tk) E.rexcl .nil) (k:=?_);intro s hs;(refine Jn ?_));rw[e1,e2]
  repeat(refine Jy ?_;try first|intro ao cap|intro b)
  (refine End.done0'_ (()) (hp:=?_));trivial
 ·obtain⟨e1,e2⟩:=h4 (by omega);rw[e1,e2]
  repeat(refine Jy ?_;try first|intro ao cap|intro b)
  (refine End.done0'_ (()) (hp:=?_));trivial
end
section
attribute [local irreducible] Run Cod End OpT Still RunQ RunS RunT Fn PutOk
structure Begun(u:Nat)(ws:List Int)(c:CoL):Prop where
 st:c.st=0
 up:c.up=none
 upb:c.upb=none
 fr:c.fr=[⟨u,0,0⟩]
 ok:c.sk.Ok
 ws:c.sk.ws=ws
theorem begin_is(tb mb:Nat)(m:ML)(rest:List Value)(u:Nat)(hu:u<m.us.length)(ao:Option Addr)(cap:Nat)(a:List Int)(hl:(m.us.getD u default).u.locals.length≤200)(ha:a.length≤400):
  Fn Tryz.prog 42 #[ptr tb, .int .i64 (u:Int), .slice ao a.length cap] [md m,rd ao a.length cap i64c a] [blk tb (ptr mb::rest) 65,blk mb (mdV m) 25] (σ:=CoL)
   (Begun u ((List.range (m.us.getD u default).u.locals.length).map fun i=>a.getD i 0)) (fun c=>ptr c.cb) (fun c=>[ccM c,frM c,blk c.sk.sb (skC c.sk) 169,arr (some ⟨c.sk.lb,0,none⟩) c.sk.l.length c.sk.l.length 2 i64c c.sk.l,blk tb (ptr mb::rest) 65,blk mb (mdV m) 25]):=by
 refine JE [ptr tb, .int .i64 (u:Int), .slice ao a.length cap] Tryz.func42 Tryz.ntmps42 fun w S=>?_
 (refine Jn ?_)
 repeat(refine Jy ?_;try first|intro ao cap|intro b)
 (refine JQ (new_stk) ?_;intro s hs;(refine Jn ?_));obtain⟨hk0,hw0,hl0⟩:=hs
 repeat(refine Jy ?_;try first|intro ao cap|intro b)
 obtain⟨cb,rfl⟩:∃x,x=b:=⟨_,rfl⟩;obtain⟨fb,rfl⟩:∃x,x=b:=⟨_,rfl⟩;obtain⟨k0,rfl⟩:∃x,x=s:=⟨_,rfl⟩;obtain⟨n,hn⟩:∃n,n=(m.us.getD u default).u.locals.length:=⟨_,rfl⟩;rw[←hn]at hl⊢;apply Cod.loop (σ:=Nat×Sk) (fun s=>s.1≤n∧s.2.Ok∧s.2.sb=k0.sb∧s.2.ws=(List.range s.1).map fun i=>a.getD i 0) (fun s=>[(0,ptr tb),(1, .int .i64 (u:Int)),(2, .slice ao a.length cap),(7,ptr cb),(27, .int .i64 (n:Int)),(28, .int .i64 (s.1:Int))]) (fun s=>old w S::rd ao a.length cap i64c a::blk tb (ptr mb::rest) 65::blk mb (mdV m) 25::blk cb (ccl 0 (.pointer none) (.slice (some ⟨fb,0,none⟩) 1 1) k0.sb) 120::blk fb (frC ⟨u,0,0⟩) 123::skM s.2) (fun s=>n-s.1) (0,k0)
 rotate_left
 exact sb;exact tks;intro s hs K hK;(refine Jn ?_)
 rotate_left
 ·exact⟨Nat.zero_le _,hk0,rfl,by simp[hw0]⟩
 obtain⟨i,k⟩:=s;obtain⟨hi,hk,hsb,hws⟩:=hs;simp only at hi hk hsb hws hK⊢;have hlen:k.live=i:=by
  have h:=Sk.len hk;rw[hws]at h;simpa using h.symm
 have hst:∀(v:Int) (k':Sk),v=a.getD i 0→(if k.live=400 then k'=k else SkTo k k' (k.ws ++[v]))→i<n→(i+1≤n∧k'.Ok∧k'.sb=k0.sb∧k'.ws=(List.range (i+1)).map fun i=>a.getD i 0):=fun v k' hv h hi'=>by
  rw[if_neg (by omega)]at h;refine⟨hi',h.ok,h.sb.trans hsb,?_⟩;rw[h.ws,hws,List.range_succ,Jq,hv];rfl
 rw[←hsb]
 by_cases hin:i<n
 ·by_cases hia:i<a.length
  ·repeat(refine Jy ?_;try first|intro ao cap|intro b)
   (refine JQ (push_stk k hk (a.getD i default)) ?_;intro s hs;(refine Jn ?_));have hh:=hst _ _ rfl hs hin;have hsb2:k.sb=s.sb:=by rw[hsb,hh.2.2.1]
   repeat(refine Jy ?_;try first|intro ao cap|intro b)
   rw[hsb];refine End.round_ hK (i+1,s) ?_ ?_
   ·exact hh
   ·simp only;omega
  ·repeat(refine Jy ?_;try first|intro ao cap|intro b)
   (refine JQ (push_stk k hk 0) ?_;intro s hs;(refine Jn ?_));have hh:=hst _ _ (by rw[Jd,List.getElem?_eq_none (by omega)];rfl) hs hin
   repeat(refine Jy ?_;try first|intro ao cap|intro b)
   rw[hsb];refine End.round_ hK (i+1,s) ?_ ?_
   ·exact hh
   ·simp only;omega
 ·obtain rfl:i=n:=by omega
  repeat(refine Jy ?_;try first|intro ao cap|intro b)
  apply End.imp (fun w hm=>Mem.toArr (b:=fb) (e:=123) (f:=frC) (n:=1) hm (tk) [⟨u,0,0⟩] rfl rfl (by unfold maxLen;simp));refine End.done1_ (⟨cb,0,none,none,some ⟨fb,0,none⟩,1,[⟨u,0,0⟩],k⟩:CoL) (he:=by rfl) (hp:=⟨rfl,rfl,rfl,rfl,hk,hws⟩)
end
section
variable{E:EnvM}{s:SL E}
abbrev SL.put(s:SL E)(q:Sk×Int×Int×E.μ):SL E:={s with cur:={s.cur with sk:=q.1},st:=q.2.1,tr:=q.2.2.1,e:=q.2.2.2}
abbrev SL.sk(s:SL E)(k:Sk):SL E:={s with cur:={s.cur with sk:=k}}
abbrev SL.thr(s:SL E)(st tr:Int)(e:E.μ):SL E:={s with st:=st,tr:=tr,e:=e}
theorem SL.Wf.thr(h:s.Wf){st tr:Int}{e:E.μ}(he:E.ok e):(s.thr st tr e).Wf:=⟨h.now,h.len,h.few,h.at_,h.up,h.upl,h.sk,he⟩
theorem trapped{n:Int}{q:Int×Int×E.μ}(h:s.Wf)(t:Trapped E n s.st s.tr s.e q):(s.thr q.1 q.2.1 q.2.2).Wf∧(s.thr q.1 q.2.1 q.2.2).two=Vm.trap E.V n s.two:=by
 by_cases h5:s.st=5
 ·have e:=t.old h5;subst e;refine⟨h,?_⟩;unfold Vm.trap;rw[if_pos (show s.two.1.st=5 from h5)]
 ·obtain⟨h1,h2,h3,h4⟩:=t.new h5;refine⟨h.thr h3,?_⟩;unfold Vm.trap;rw[if_neg (show¬s.two.1.st=5 from h5)];show(SL.tk _,E.abs q.2.2)=_;rw[h4,h1,h2];rfl
theorem SL.Wf.wsLen(h:s.Wf):(Vm.cur s.two.1).ws.length=s.cur.sk.live:=by
 show(Vm.cur s.tk).ws.length=_;rw[h.cur];exact Sk.len h.curOk
theorem SL.Wf.skTo(h:s.Wf){k:Sk}{xs:List Int}(t:SkTo s.cur.sk k xs):(s.sk k).Wf∧(s.sk k).tk=Vm.setCur s.tk {Vm.cur s.tk with ws:=xs}:=by
 refine⟨h.setCur rfl rfl rfl t.ok,?_⟩;rw[SL.tk_cur,h.cur];show Vm.setCur s.tk ⟨s.cur.st,s.cur.up,s.cur.fr,k.ws⟩=_;rw[t.ws];rfl
theorem pushed{v:Int}{q:Sk×Int×Int×E.μ}(h:s.Wf)(t:Pushed E v s.cur.sk s.st s.tr s.e q):(s.put q).Wf∧(s.put q).two=Vm.push E.V v s.two:=by
 obtain⟨k,st,tr,e⟩:=q;unfold Vm.push
 by_cases h4:s.cur.sk.live=400
 ·obtain⟨e1,e2⟩:=t.full h4;simp only at e1 e2;subst e1;rw[if_pos (by rw[h.wsLen];exact h4)];exact trapped h e2
 ·obtain⟨e1,e2⟩:=t.room h4;simp only[Prod.mk.injEq]at e1 e2;obtain⟨rfl,rfl,rfl⟩:=e2;rw[if_neg (by rw[h.wsLen];exact h4)];obtain⟨g1,g2⟩:=h.skTo e1;refine⟨g1,?_⟩;show((s.sk k).tk,E.abs s.e)=_;rw[g2,h.cur];show _=(Vm.setCur s.tk {Vm.cur s.tk with ws:=(Vm.cur s.tk).ws ++[v]},E.abs s.e);rw[h.cur];rfl
theorem popped{n:Nat}{k:Sk}(h:s.Wf)(t:SkTo s.cur.sk k (s.cur.sk.ws.take (s.cur.sk.live-n))):(s.sk k).Wf∧(s.sk k).tk=Vm.drop n s.tk:=by
 obtain⟨g1,g2⟩:=h.skTo t;refine⟨g1,?_⟩;rw[g2];unfold Vm.drop;have:=h.wsLen;have e:(Vm.cur s.tk).ws.length=s.cur.sk.live:=this;rw[e,h.cur];rfl
theorem SL.Wf.last(h:s.Wf):Vm.last s.tk=s.cur.sk.ws.getD (s.cur.sk.live-1) 0:=by
 unfold Vm.last;have e:(Vm.cur s.tk).ws.length=s.cur.sk.live:=h.wsLen;rw[e,h.cur];rfl
theorem SL.Wf.topF(h:s.Wf):Vm.topF (Vm.cur s.tk)=s.cur.fr.getD (s.cur.fr.length-1) default:=by
 rw[h.cur];rfl
end
section
attribute [local irreducible] Run Cod End OpT Still RunQ RunS RunT Fn PutOk
variable{E:EnvM}
structure Gives(s:SL E)(r:Vm.Tk×E.ν)(s':SL E):Prop where
 wf:s'.Wf
 two:s'.two=r
abbrev SL.F(p:Pl)(s:SL E):TF:=⟨p.tb,p.mb, .slice s.co s.bs.length s.ccap,s.cur.cb,s.bx, .slice s.oo s.out.length s.oc⟩
theorem pushN_last{ν:Type}(V:Vm.Env ν):∀(n:Nat) (s:Vm.Tk×ν),Vm.pushN V (n+1) s=Vm.push V 0 (Vm.pushN V n s)
 |0,s=>rfl
 |n+1,s=>by
  rw[Vm.pushN,pushN_last V n];rfl
set_option maxHeartbeats 1000000 in
theorem call_is(p:Pl)(z:SL E)(hz:z.Wf)(hsz:E.size (E.abs z.e)≤1000000)(u:Nat)(hu:u<p.m.us.length)(hp:0≤(p.m.us.getD u default).u.params)(hpl:(p.m.us.getD u default).u.params.toNat≤z.cur.sk.live)(hpL:(p.m.us.getD u default).u.params.toNat≤(p.m.us.getD u default).u.locals.length)(hl:(p.m.us.getD u default).u.locals.length≤200)(hf:z.cur.fr.length≤40):
  Fn Tryz.prog 78 #[ptr p.tb, .int .i64 (u:Int)] [md p.m,E.rc] (TM p z) (σ:=SL E) (Gives z (Vm.callU E.V p.m.mdl u z.two)) (fun _=> .tuple #[]) (fun z'=>TM p z'):=by
 obtain⟨g1,g2,g3⟩:=id hz.curOk;have he:E.okk z.e:=⟨hz.env,by omega⟩;have hcl:(Vm.cur z.two.1).fr.length=z.cur.fr.length:=by
  show(Vm.cur z.tk).fr.length=_;rw[hz.cur];rfl
 obtain⟨n,hn⟩:∃n,n=(p.m.us.getD u default).u.locals.length-(p.m.us.getD u default).u.params.toNat:=⟨_,rfl⟩;obtain⟨bse,hbse⟩:∃n,n=z.cur.sk.live-(p.m.us.getD u default).u.params.toNat:=⟨_,rfl⟩;have w1:IntKind.i64.wrap ((z.cur.sk.live:Int)-(p.m.us.getD u default).u.params)=(bse:Int):=by rw[wrap_i64_in (by omega)];omega
 have w2:IntKind.i64.wrap (((p.m.us.getD u default).u.locals.length:Int)-(p.m.us.getD u default).u.params)=(n:Int):=by rw[wrap_i64_in (by omega)];omega
 refine JE [ptr p.tb, .int .i64 (u:Int)] Tryz.func78 Tryz.ntmps78 fun w S=>?_
 (refine Jn ?_)
 repeat(refine Jy ?_;try first|intro ao cap|intro b)
 apply Cod.draw 10 ([ccM z.cur,md p.m]) (by kernel_rfl) 11 rfl;refine JR 0 ?_;refine JR 1 ?_;refine JR 2 ?_;refine JR 3 ?_;refine JR 5 ?_;refine JR 6 ?_;refine JR 7 ?_;refine JR 8 ?_;(refine JT 4 ?_;refine JK (live_is z.cur.sk) ?_;intro s hs;refine JG ?_;(refine Jn ?_));refine JR 9 ?_;refine RunT.one_ 10 (h:=OpT.val_ (k:=And.intro gud ?_));(apply RunT.done;kernel_rfl)
 by_cases h40:z.cur.fr.length=40
 ·repeat(refine Jy ?_;try first|intro ao cap|intro b)
  (refine Jc ?_;refine OpT.call0_ (spec:=trap_is E (z.F p) z.st z.tr z.e he 4) (r:=fun w=>Reads.any (tk) E.rexcl .nil) (k:=?_);intro s hs;(refine Jn ?_))
  repeat(refine Jy ?_;try first|intro ao cap|intro b)
  obtain⟨t1,t2⟩:=trapped hz hs;(refine End.done0_ ((z.thr s.1 s.2.1 s.2.2)) (hp:=?_));refine⟨t1,t2.trans ?_⟩;unfold Vm.callU;rw[if_pos (hcl.trans h40)]
 ·repeat(refine Jy ?_;try first|intro ao cap|intro b)
  (apply Run.op;exact rfl;refine OpT.append1_ (a:=(⟨u,0,bse⟩:Vm.Fr)) (k:=?_);intro ao cap);obtain⟨z1,hz1⟩:∃z1:SL E,z1={z with cur:={z.cur with fo:=ao,fc:=cap,fr:=z.cur.fr ++[⟨u,0,bse⟩]}}:=⟨_,rfl⟩;have hw1:z1.Wf:=by rw[hz1];exact hz.setCur rfl rfl rfl hz.curOk
  repeat(refine Jy ?_;try first|intro ao cap|intro b)
  apply Cod.loop (σ:=Nat×(Sk×Int×Int×E.μ)) (fun s=>s.1≤n∧(z1.put s.2).Wf∧(z1.put s.2).two=Vm.pushN E.V s.1 z1.two) (fun s=>[(0,ptr p.tb),(59, .int .i64 (n:Int)),(60, .int .i64 (s.1:Int))]) (fun s=>old w S::E.rc::E.tc (z.F p) s.2.2.1 s.2.2.2.1::moM p::csM z::ouM z::bagM (z.oth.eraseIdx z.now)::E.mem s.2.2.2.2::cc z.cur.cb (z.cur.st:Int) (ptrO z.cur.upb) (.slice ao (z.cur.fr.length+1) cap) s.2.1.sb::arr ao (z.cur.fr.length+1) cap 123 frC (z.cur.fr ++[⟨u,0,bse⟩])::skM s.2.1) (fun s=>n-s.1) (0,z.cur.sk,z.st,z.tr,z.e)
  rotate_left
  exact sb;exact tks;intro s hs K hK;(refine Jn ?_)
  rotate_left
  ·refine⟨Nat.zero_le _,?_,?_⟩
   ·rw[hz1]at hw1⊢;exact hw1
   ·rw[hz1];rfl
  obtain⟨i,k,st,tr,e⟩:=s;obtain⟨hi,hw,h2⟩:=hs;simp only at hi hw h2 hK⊢
  by_cases hin:i<n
  ·have hkk:E.okk e:=⟨hw.env,by
    have h5:=pushN_size E i z1.two;rw[←h2]at h5;have h6:E.size (E.abs e)≤E.size (E.abs z1.e)+i:=h5;have h7:z1.e=z.e:=by rw[hz1]
    rw[h7]at h6;omega⟩
   repeat(refine Jy ?_;try first|intro ao cap|intro b)
   (refine Jc ?_;refine OpT.call0_ (spec:=push_is' E (z.F p) st tr e hkk (z.cur.st:Int) (ptrO z.cur.upb) (.slice ao (z.cur.fr.length+1) cap) k hw.curOk 0) (r:=fun w=>Reads.any (tk) E.rexcl .nil) (k:=?_);intro s hs;(refine Jn ?_));obtain⟨t1,t2⟩:=pushed hw hs
   repeat(refine Jy ?_;try first|intro ao cap|intro b)
   refine End.round_ hK (i+1,s) ?_ ?_
   ·refine⟨hin,t1,?_⟩;rw[pushN_last,←h2];exact t2
   ·simp only;omega
  ·obtain rfl:i=n:=by omega
   repeat(refine Jy ?_;try first|intro ao cap|intro b)
   subst hz1;(refine End.done0'_ (SL.put {z with cur:={z.cur with fo:=ao,fc:=cap,fr:=z.cur.fr ++[⟨u,0,bse⟩]}} (k,st,tr,e)) (ht:=Jx) (hp:=?_));refine⟨hw,h2.trans ?_⟩;unfold Vm.callU;rw[if_neg (fun h=>h40 (hcl.symm.trans h))];have e1:(Vm.unt p.m.mdl u).locals.length-(Vm.unt p.m.mdl u).params.toNat=i:=by unfold Vm.unt;rw[ML.unit_at];exact hn.symm
   have e2:(Vm.cur z.tk).ws.length-(Vm.unt p.m.mdl u).params.toNat=bse:=by rw[show(Vm.cur z.tk).ws.length=z.cur.sk.live from hz.wsLen];unfold Vm.unt;rw[ML.unit_at];exact hbse.symm
   show _=Vm.pushN E.V _ (Vm.setCur z.tk {Vm.cur z.tk with fr:=(Vm.cur z.tk).fr ++[⟨u,0,(Vm.cur z.tk).ws.length-(Vm.unt p.m.mdl u).params.toNat⟩]},E.abs z.e);rw[e1,e2,hz.cur];unfold SL.two;rw[SL.tk_cur];rfl
end
theorem Run.imp'{P:Program}{ops:Array Oper}{Q:Exit→Act→World→Prop}{N:Nat}{l:List Oper}{E:Env}{L L':List Chunk}(t:∀w,Mem w L→Mem w L')(h:Run P ops Q N l E L'):Run P ops Q N l E L:=fun a w hs hm=>h a w hs (t w hm)
theorem getD_eraseIdx_perm{α:Type} [Inhabited α]:∀{l:List α} {k:Nat},k<l.length→l.Perm (l.getD k default::l.eraseIdx k)
 |a::l,0,_=>List.Perm.refl _
 |a::l,k+1,h=>by
  have ih:=getD_eraseIdx_perm (l:=l) (k:=k) (by simpa using h);exact(List.Perm.cons a ih).trans (List.Perm.swap _ _ _)
theorem flat_perm(l:List CoL){k:Nat}(h:k<l.length):(l.flatMap coM).Perm (coM (l.getD k default) ++(l.eraseIdx k).flatMap coM):=by
 have:=(getD_eraseIdx_perm h).flatMap_right coM;simpa only[List.flatMap_cons]using this
theorem eraseIdx_set_same{α:Type}(l:List α)(k:Nat)(a:α):(l.set k a).eraseIdx k=l.eraseIdx k:=List.eraseIdx_set_eq
theorem getD_set_ne{l:List CoL}{j k:Nat}{c:CoL}(h:j≠k):(l.set j c).getD k default=l.getD k default:=by
 simp only[Jd];rw[List.getElem?_set_ne h]
theorem getD_set_eq{l:List CoL}{k:Nat}{c:CoL}(h:k<l.length):(l.set k c).getD k default=c:=by
 simp only[Jd];rw[JS h];rfl
theorem coM_excl(c:CoL):∀d∈coM c,d.excl=true:=by
 unfold coM;simp[blk_excl,arr_excl]
theorem Mem.swap{w:World}{L L' F:List Chunk}{l:List CoL}{c:CoL}{j k:Nat}(h:Mem w L)(t:Take (bagM (l.eraseIdx j)) L L')(t2:Takes (coM c) L' F)(hj:j<l.length)(hk:k<l.length)(hne:j≠k):Mem w (coM (l.getD k default) ++(bagM ((l.set j c).eraseIdx k)::F)):=by
 have h1:Mem w (bag ((l.set j c).flatMap coM)::F):=by
  refine Mem.bagIn (es:=(l.eraseIdx j).flatMap coM) (ds:=coM c) h t t2 ?_ (coM_excl c);have:=flat_perm (l.set j c) (k:=j) (by simpa using hj);rwa [getD_set_eq hj,eraseIdx_set_same]at this
 have h2:=Mem.bagOut (ds:=coM (l.getD k default)) (es:=((l.set j c).eraseIdx k).flatMap coM) h1 .head (by
  have:=flat_perm (l.set j c) (k:=k) (by simpa using hk);rwa [getD_set_ne hne]at this)
 exact h2
section
variable{E:EnvM}{s:SL E}
abbrev SL.go(s:SL E)(c:CoL)(j:Nat)(d:CoL):SL E:={s with oth:=s.oth.set s.now c,now:=j,cur:=d}
theorem SL.go_all(s:SL E)(c d:CoL)(j:Nat):(s.go c j d).all=(s.oth.set s.now c).set j d:=rfl
theorem SL.Wf.oth(h:s.Wf){j:Nat}(hj:s.now≠j):s.all.getD j default=s.oth.getD j default:=getD_set_ne hj
theorem SL.go_tk(s:SL E)(c d:CoL)(j:Nat):(s.go c j d).tk={Vm.setC (Vm.setCur s.tk c.abs) j d.abs with now:=j}:=by
 unfold SL.tk Vm.setCur Vm.setC SL.all;simp only[List.map_set,List.set_set]
theorem SL.Wf.go(h:s.Wf){c d:CoL}{j:Nat}(hj:j<s.oth.length)(hne:s.now≠j)(hc:c.cb=s.cur.cb∧c.sk.Ok∧c.upb=c.up.map (fun j=>s.bs.getD j 0)∧∀i,c.up=some i→i<s.oth.length)
  (hd:d.cb=(s.oth.getD j default).cb∧d.sk.Ok∧d.upb=d.up.map (fun j=>s.bs.getD j 0)∧∀i,d.up=some i→i<s.oth.length):(s.go c j d).Wf:=by
 have hmem:∀x∈(s.go c j d).all,x=c∨x=d∨x∈s.all:=fun x hx=>by
  rw[SL.go_all]at hx;obtain⟨i,hi,e⟩:=List.mem_iff_getElem.1 hx;rw[List.getElem_set]at e
  split at e
  ·exact .inr (.inl e.symm)
  rw[List.getElem_set]at e
  split at e
  ·exact .inl e.symm
  ·rename_i hne'
   right;right
   rw[←e];unfold SL.all;refine List.mem_iff_getElem.2 ⟨i,by simpa using hi,?_⟩;rw[List.getElem_set_ne hne']
 refine⟨by simpa using hj,by simpa using h.len,by simpa using h.few,fun i hi=>?_,fun x hx=>?_,fun x hx i hi=>?_,fun x hx=>?_,h.env⟩
 ·have hi:i<s.oth.length:=by simpa using hi
  rw[SL.go_all]
  by_cases hij:j=i
  ·subst hij;rw[getD_set_eq (by simpa using hi),hd.1,←h.at_ j hi,h.oth hne]
  ·rw[getD_set_ne hij]
   by_cases hin:s.now=i
   ·subst hin;rw[getD_set_eq hi,hc.1,←h.at_ _ hi,h.curGet]
   ·rw[getD_set_ne hin,←h.at_ i hi,h.oth hin]
 ·rcases hmem x hx with rfl|rfl|hx
  ·exact hc.2.2.1
  ·exact hd.2.2.1
  ·exact h.up x hx
 ·show i<(s.oth.set _ _).length;rw[Ji];rcases hmem x hx with rfl|rfl|hx
  ·exact hc.2.2.2 i hi
  ·exact hd.2.2.2 i hi
  ·exact h.upl x hx i hi
 ·rcases hmem x hx with rfl|rfl|hx
  ·exact hc.2.1
  ·exact hd.2.1
  ·exact h.sk x hx
theorem SL.go_tk'(s:SL E)(c:CoL){j:Nat}(hj:j<s.oth.length)(hne:s.now≠j):(s.go c j (s.oth.getD j default)).tk={Vm.setCur s.tk c.abs with now:=j}:=by
 unfold SL.tk Vm.setCur Vm.setC;rw[SL.go_all];have e:(s.oth.set s.now c).set j (s.oth.getD j default)=s.oth.set s.now c:=by
  refine List.ext_getElem (by simp) fun i h1 h2=>?_
  rw[List.getElem_set]
  split
  ·rename_i h
   subst h;rw[List.getElem_set_ne hne,Jd,Je hj];rfl
  ·rfl
 rw[e];unfold SL.all;simp only[List.map_set,List.set_set]
theorem Mem.swap1{w:World}{L L' F:List Chunk}{l:List CoL}(c:CoL){j k:Nat}(h:Mem w L)(t:Take (bagM (l.eraseIdx j)) L L')(t2:Takes (coM c) L' F)(hj:j<l.length)(hk:k<l.length)(hne:j≠k):
  Mem w (ccM (l.getD k default)::frM (l.getD k default)::blk (l.getD k default).sk.sb (skC (l.getD k default).sk) 169::arr (some ⟨(l.getD k default).sk.lb,0,none⟩) (l.getD k default).sk.l.length (l.getD k default).sk.l.length 2 i64c (l.getD k default).sk.l::bagM ((l.set j c).eraseIdx k)::F):=Mem.swap h t t2 hj hk hne
theorem Mem.back1{w:World}{L L' F:List Chunk}{l:List CoL}(c:CoL){j k:Nat}(h:Mem w L)(t:Take (bagM ((l.set j c).eraseIdx k)) L L')(t2:Takes (coM (l.getD k default)) L' F)(hj:j<l.length)(hk:k<l.length)(hne:j≠k):
  Mem w (ccM c::frM c::blk c.sk.sb (skC c.sk) 169::arr (some ⟨c.sk.lb,0,none⟩) c.sk.l.length c.sk.l.length 2 i64c c.sk.l::bagM (l.eraseIdx j)::F):=by
 have h1:=Mem.swap1 (l:=l.set j c) (l.getD k default) h t t2 (by simpa using hk) (by simpa using hj) (fun e=>hne e.symm);have e2:((l.set j c).set k (l.getD k default))=l.set j c:=by
  refine List.ext_getElem (by simp) fun i h1 h2=>?_
  rw[List.getElem_set]
  split
  ·rename_i h
   subst h;rw[List.getElem_set_ne hne,Jd,Je hk];rfl
  ·rfl
 rw[getD_set_eq hj,e2,eraseIdx_set_same]at h1;exact h1
theorem SL.Wf.bsGet(h:s.Wf){j:Nat}(hj:j<s.oth.length)(hne:s.now≠j):s.bs.getD j 0=(s.oth.getD j default).cb:=by rw[←h.at_ j hj,h.oth hne]
theorem SL.Wf.othMem(h:s.Wf){j:Nat}(hj:j<s.oth.length)(hne:s.now≠j):s.oth.getD j default∈s.all:=by
 rw[←h.oth hne];exact getD_mem (by rw[s.allLen];exact hj)
end
attribute [local irreducible] Run Cod End OpT Still RunQ RunS RunT Fn PutOk
variable{E:EnvM}
set_option maxHeartbeats 1000000 in
theorem end_is(p:Pl)(z:SL E)(hz:z.Wf)(hsz:E.size (E.abs z.e)≤1000000)(hj:∀j,z.cur.up=some j→z.now≠j):
  Fn Tryz.prog 79 #[ptr p.tb] [E.rc] (TM p z) (σ:=SL E) (Gives z (Vm.endU E.V z.two)) (fun _=> .tuple #[]) (fun z'=>TM p z'):=by
 have he:E.okk z.e:=⟨hz.env,by omega⟩;have hub:=hz.up _ hz.curMem;have hcur:=hz.cur
 cases hup:z.cur.up with
 |none=>
  rw[hup]at hub;have hcc:ccM z.cur=cc z.cur.cb (z.cur.st:Int) (.pointer none) (.slice z.cur.fo z.cur.fr.length z.cur.fc) z.cur.sk.sb:=by unfold ccM;rw[hub];rfl
  refine JE [ptr p.tb] Tryz.func79 Tryz.ntmps79 fun w S=>?_
  (refine Jn ?_);unfold TM;rw[hcc]
  repeat(refine Jy ?_;try first|intro ao cap|intro b)
  (refine Jc ?_;refine OpT.call0_ (spec:=tell_is E (z.F p) 4 z.tr z.e he 4 0 0) (r:=fun w=>Reads.any (tk) E.rexcl .nil) (k:=?_);intro s hs;(refine Jn ?_));obtain⟨k1,k2⟩:=hs
  repeat(refine Jy ?_;try first|intro ao cap|intro b)
  have hw1:({z with cur:={z.cur with st:=3,upb:=none}}:SL E).Wf:=hz.setCur rfl rfl (by rw[hub];rfl) hz.curOk;(refine End.done0_ (({z with cur:={z.cur with st:=3,upb:=none},st:=4,e:=s}:SL E)) (hp:=?_));refine⟨hw1.thr (st:=4) (tr:=z.tr) k1,?_⟩;unfold Vm.endU;have e1:(Vm.cur z.two.1).up=none:=(congrArg Vm.Co.up hcur).trans hup;rw[e1];show(SL.tk _,E.abs s)=({Vm.setCur z.tk {Vm.cur z.tk with st:=3}with st:=4},E.V.tell (E.abs z.e) (4,0,0));rw[k2,hcur];have e2:=SL.tk_cur z {z.cur with st:=3,upb:=none};have e3:(CoL.abs {z.cur with st:=3,upb:=none})=({z.cur.abs with st:=3}:Vm.Co):=rfl;rw[e3]at e2;rw[←e2];rfl
 |some j=>
  rw[hup]at hub;have hne:=hj j hup;have hlt:=hz.upl _ hz.curMem j hup;have hcc:ccM z.cur=cc z.cur.cb (z.cur.st:Int) (ptr (z.bs.getD j 0)) (.slice z.cur.fo z.cur.fr.length z.cur.fc) z.cur.sk.sb:=by unfold ccM;rw[hub];rfl
  refine JE [ptr p.tb] Tryz.func79 Tryz.ntmps79 fun w S=>?_
  (refine Jn ?_);unfold TM;rw[hcc]
  repeat(refine Jy ?_;try first|intro ao cap|intro b)
  rw[hz.bsGet hlt hne];apply Run.imp' (fun w hm=>Mem.swap1 {z.cur with st:=3,up:=none,upb:=none} hm (tk) (tks) hz.now hlt hne);have hd:=hz.othMem hlt hne;have hw1:(z.go {z.cur with st:=3,up:=none,upb:=none} j (z.oth.getD j default)).Wf:=hz.go hlt hne ⟨rfl,hz.curOk,rfl,fun i h=>by simp at h⟩ ⟨rfl,hz.sk _ hd,hz.up _ hd,hz.upl _ hd⟩;(refine Jc ?_;refine OpT.call0_ (spec:=push_is' E (SL.F p (z.go {z.cur with st:=3,up:=none,upb:=none} j (z.oth.getD j default))) z.st z.tr z.e he ((z.oth.getD j default).st:Int) (ptrO (z.oth.getD j default).upb) (.slice (z.oth.getD j default).fo (z.oth.getD j default).fr.length (z.oth.getD j default).fc) (z.oth.getD j default).sk (hz.sk _ hd) 0) (r:=fun w=>Reads.any (tk) E.rexcl .nil) (k:=?_);intro s hs;(refine Jn ?_));obtain⟨t1,t2⟩:=pushed hw1 hs
  repeat(refine Jy ?_;try first|intro ao cap|intro b)
  (refine End.done0'_ (((z.go {z.cur with st:=3,up:=none,upb:=none} j (z.oth.getD j default)).put s)) (hp:=?_));refine⟨t1,t2.trans ?_⟩;unfold Vm.endU;have e1:(Vm.cur z.two.1).up=some j:=(congrArg Vm.Co.up hcur).trans hup;rw[e1];show Vm.push E.V 0 (SL.tk _,E.abs z.e)=Vm.push E.V 0 ({Vm.setCur z.tk {Vm.cur z.tk with st:=3,up:=none}with now:=j},E.abs z.e);rw[SL.go_tk' z _ hlt hne,hcur];rfl
def resR{ν:Type}(V:Vm.Env ν)(k:Nat)(v:Int)(s:Vm.Tk×ν):Vm.Tk×ν:=
 if(s.1.cs.getD k default).st=3 then Vm.trap V 2 s
 else if(s.1.cs.getD k default).st=2 then Vm.trap V 3 s
 else if(s.1.cs.getD k default).st=0 then({Vm.setC s.1 k {s.1.cs.getD k default with st:=2,up:=some s.1.now}with now:=k},s.2)
 else Vm.push V v ({Vm.setC s.1 k {s.1.cs.getD k default with st:=2,up:=some s.1.now}with now:=k},s.2)
theorem resumeU_eq{ν:Type}(V:Vm.Env ν)(s:Vm.Tk×ν):Vm.resumeU V s=resR V (Vm.last (Vm.drop 1 s.1)).toNat (Vm.last s.1) (Vm.drop 1 (Vm.drop 1 s.1),s.2):=rfl
theorem SL.Wf.csGet{z:SL E}(hz:z.Wf){k:Nat}(hk:k<z.oth.length):z.tk.cs.getD k default=(z.all.getD k default).abs:=getD_map0 _ _ (by rw[z.allLen];exact hk)
set_option maxHeartbeats 1000000 in
theorem resume_is(p:Pl)(z:SL E)(hz:z.Wf)(hsz:E.size (E.abs z.e)≤1000000)(k:Nat)(hk:k<z.oth.length)(v:Int)(hg:z.cur.st=2)(hst:(z.oth.getD k default).st≤3∨k=z.now):
  Fn Tryz.prog 81 #[ptr p.tb,ptr (z.bs.getD k 0), .int .i64 v] [E.rc] (TM p z) (σ:=SL E) (Gives z (resR E.V k v z.two)) (fun _=> .tuple #[]) (fun z'=>TM p z'):=by
 have he:E.okk z.e:=⟨hz.env,by omega⟩
 by_cases hkn:k=z.now
 ·subst hkn;rw[←hz.curCb];refine JE [ptr p.tb,ptr z.cur.cb, .int .i64 v] Tryz.func81 Tryz.ntmps81 fun w S=>?_
  (refine Jn ?_)
  repeat(refine Jy ?_;try first|intro ao cap|intro b)
  (refine Jc ?_;refine OpT.call0_ (spec:=trap_is E (z.F p) z.st z.tr z.e he 3) (r:=fun w=>Reads.any (tk) E.rexcl .nil) (k:=?_);intro s hs;(refine Jn ?_))
  repeat(refine Jy ?_;try first|intro ao cap|intro b)
  obtain⟨t1,t2⟩:=trapped hz hs;(refine End.done0_ ((z.thr s.1 s.2.1 s.2.2)) (hp:=?_));refine⟨t1,t2.trans ?_⟩;unfold resR;have e1:z.two.1.cs.getD z.now default=z.cur.abs:=by rw[show z.two.1=z.tk from rfl,hz.csGet hk,hz.curGet]
  rw[e1,if_neg (by show¬z.cur.st=3;omega),if_pos (show z.cur.abs.st=2 from hg)]
 ·have hne:z.now≠k:=fun h=>hkn h.symm
  have hst3:(z.oth.getD k default).st≤3:=hst.resolve_right hkn;rw[hz.bsGet hk hne];have e1:z.two.1.cs.getD k default=(z.oth.getD k default).abs:=by rw[show z.two.1=z.tk from rfl,hz.csGet hk,hz.oth hne]
  have hdm:=hz.othMem hk hne;have hcd:(CoL.abs (z.oth.getD k default)).st=(z.oth.getD k default).st:=rfl;refine JE [ptr p.tb,ptr (z.oth.getD k default).cb, .int .i64 v] Tryz.func81 Tryz.ntmps81 fun w S=>?_
  (refine Jn ?_);apply Cod.imp (fun w hm=>Mem.swap1 z.cur hm (tk) (tks) hz.now hk hne);obtain⟨d,hd⟩:∃d,d=z.oth.getD k default:=⟨_,rfl⟩;rw[←hd]at e1 hdm hcd hst3⊢;have hback:∀{w:World} {L L' F:List Chunk},Take (bagM ((z.oth.set z.now z.cur).eraseIdx k)) L L'→Takes (coM d) L' F→Mem w L→Mem w (ccM z.cur::frM z.cur::blk z.cur.sk.sb (skC z.cur.sk) 169::arr (some ⟨z.cur.sk.lb,0,none⟩) z.cur.sk.l.length z.cur.sk.l.length 2 i64c z.cur.sk.l::bagM (z.oth.eraseIdx z.now)::F):=fun t t2 hm=>by
   rw[hd]at t2;exact Mem.back1 z.cur hm t t2 hz.now hk hne
  have hself:Vm.setCur z.tk z.cur.abs=z.tk:=(SL.tk_cur z z.cur).symm;have hw1:(z.go z.cur k {d with st:=2,up:=some z.now,upb:=some z.cur.cb}).Wf:=hz.go hk hne ⟨rfl,hz.curOk,hz.up _ hz.curMem,hz.upl _ hz.curMem⟩ ⟨by rw[hd],(hz.sk d hdm:d.sk.Ok),by rw[hz.curCb];rfl,fun i h=>by simp at h;subst h;exact hz.now⟩;have htk:(z.go z.cur k {d with st:=2,up:=some z.now,upb:=some z.cur.cb}).tk={Vm.setC z.tk k {d.abs with st:=2,up:=some z.now}with now:=k}:=by
   rw[SL.go_tk,hself];rfl
  by_cases h3:d.st=3
  ·repeat(refine Jy ?_;try first|intro ao cap|intro b)
   (refine Jc ?_;refine OpT.call0_ (spec:=trap_is E (z.F p) z.st z.tr z.e he 2) (r:=fun w=>Reads.any (tk) E.rexcl .nil) (k:=?_);intro s hs;(refine Jn ?_))
   repeat(refine Jy ?_;try first|intro ao cap|intro b)
   obtain⟨t1,t2⟩:=trapped hz hs;apply End.imp (fun w hm=>hback (tk) (tks) hm);(refine End.done0_ ((z.thr s.1 s.2.1 s.2.2)) (hp:=?_));refine⟨t1,t2.trans ?_⟩;unfold resR;rw[e1,if_pos (show d.abs.st=3 from h3)]
  ·by_cases h2:d.st=2
   ·repeat(refine Jy ?_;try first|intro ao cap|intro b)
    (refine Jc ?_;refine OpT.call0_ (spec:=trap_is E (z.F p) z.st z.tr z.e he 3) (r:=fun w=>Reads.any (tk) E.rexcl .nil) (k:=?_);intro s hs;(refine Jn ?_))
    repeat(refine Jy ?_;try first|intro ao cap|intro b)
    obtain⟨t1,t2⟩:=trapped hz hs;apply End.imp (fun w hm=>hback (tk) (tks) hm);(refine End.done0_ ((z.thr s.1 s.2.1 s.2.2)) (hp:=?_));refine⟨t1,t2.trans ?_⟩;unfold resR;rw[e1,if_neg (show¬d.abs.st=3 from h3),if_pos (show d.abs.st=2 from h2)]
   ·by_cases h0:d.st=0
    ·repeat(refine Jy ?_;try first|intro ao cap|intro b)
     (refine End.done0'_ ((z.go z.cur k {d with st:=2,up:=some z.now,upb:=some z.cur.cb})) (hp:=?_));refine⟨hw1,?_⟩;unfold resR;rw[e1,if_neg (show¬d.abs.st=3 from h3),if_neg (show¬d.abs.st=2 from h2),if_pos (show d.abs.st=0 from h0)];show(SL.tk _,E.abs z.e)=_;rw[htk];rfl
    ·repeat(refine Jy ?_;try first|intro ao cap|intro b)
     (refine Jc ?_;refine OpT.call0_ (spec:=push_is' E (SL.F p (z.go z.cur k {d with st:=2,up:=some z.now,upb:=some z.cur.cb})) z.st z.tr z.e he 2 (ptr z.cur.cb) (.slice d.fo d.fr.length d.fc) d.sk (hz.sk _ hdm) v) (r:=fun w=>Reads.any (tk) E.rexcl .nil) (k:=?_);intro s hs;(refine Jn ?_));obtain⟨t1,t2⟩:=pushed hw1 hs
     repeat(refine Jy ?_;try first|intro ao cap|intro b)
     (refine End.done0'_ (((z.go z.cur k {d with st:=2,up:=some z.now,upb:=some z.cur.cb}).put s)) (hp:=?_));refine⟨t1,t2.trans ?_⟩;unfold resR;rw[e1,if_neg (show¬d.abs.st=3 from h3),if_neg (show¬d.abs.st=2 from h2),if_neg (show¬d.abs.st=0 from h0)];show Vm.push E.V v (SL.tk _,E.abs z.e)=_;rw[htk];rfl
end Go.Proofs.YtjehflelkpacfaaGreat.Vw
