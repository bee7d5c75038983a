/- SchedTells, walked. -/
import Derived.Test.YtjehflelkpacfaaGreatM42
import Derived.Laws.StructEq
set_option linter.unusedVariables false
set_option linter.unusedSimpArgs false
set_option linter.unusedSectionVars false
set_option maxRecDepth 100000
namespace Go.Proofs.YtjehflelkpacfaaGreat.Vw
open Go.RowKit Go.Proofs.YtjehflelkpacfaaGreat.Img
abbrev ddV(d:Int×Nat):Value:= .agg #[.int .i64 d.1, .int .i64 (d.2:Int)]
theorem run_ddIn(x:Int×Nat)(w:World):(Op.equalIn 10000 42 (ddV x) (ddV x)).run Tryz.prog w= .ok true w:=by
 have u3:=Tryz.underlying3;have a3:=Tryz.isAgg3;have z3:=Tryz.sizeOf3;have u4:=Tryz.underlying28;have a4:=Tryz.isAgg28;have hS:Tryz.prog.underlying 42=some (.struct (Tryz.prog.fieldsOf 42)):=by kernel_rfl
 have hp:Tryz.prog.stoodInHeld 42=false:=by kernel_rfl
 obtain⟨a,b⟩:=x;rw[show(10000:Nat)=9999+1 from rfl,run_equalIn_agg w 9999 42 _ _ hS hp];simp only[Program.fieldsOf,Tryz.underlying42]
 go_simp
section
variable{N:Nat}{E:Env}{L:List Chunk}{dst:Option Tmp}{ty:TypeId}{pos:String}{aft:Array Edge}{g:Option (Nat×Bool)}
theorem Still.neqDd{x y:Operand}{a:Int×Nat}{v v':Value}(hx:ev E x=some v)(hy:ev E y=some v')(h1:v=ddV a)(h2:v'=ddV a):Still Tryz.prog N ⟨dst, .binOp .neq 42 x y 42,ty,pos,aft,g⟩ E L (.bool false):=fun A w hs _=>by
 subst h1 h2;have hg:=run_eqGuard_agg (P:=Tryz.prog) w .neq 42 x y (ddC a).toArray (ddC a).toArray (by kernel_rfl);simp only[ddC]at hg;simp[execOp,hs.ev hx,hs.ev hy,hg,run_neq_struct,run_ddIn]
end
theorem run_eq{m:ML}{ps:List (Int×Int)}{a b:RunL}(ha:RunIs m ps a)(hb:RunIs m ps b):a.w.Eq b.w∧a.l=b.l:=by
 unfold RunIs at ha hb
 by_cases h1:Vm.wrong m.mdl ps.length=0
 ·rw[if_pos h1]at ha hb;exact⟨ha.w.eq hb.w,ha.l.trans hb.l.symm⟩
 ·rw[if_neg h1]at ha hb;rw[ha,hb];exact⟨⟨rfl,rfl,rfl⟩,rfl⟩
theorem set_eq{m:ML}(hwf:m.Wf){ps:List (Int×Int)}{q:Int}{r:WoL}{s:WoL×Int}(hr:SetIs m ps q r)(hs:SetR m ps q s):Vm.setErr m.mdl ps q=s.2∧r.Eq s.1:=by
 unfold SetR at hs;unfold SetIs at hr;obtain⟨W,hW⟩:∃W,W=Vm.wrong m.mdl ps.length:=⟨_,rfl⟩;rw[←hW]at hs
 by_cases h0:W≠0
 ·rw[if_pos h0]at hs;rw[setErr_1 hW h0]at hr⊢;rw[if_neg h0]at hr;rw[hs,hr];exact⟨rfl,⟨rfl,rfl,rfl⟩⟩
 rw[if_neg h0]at hs;have h0:=Classical.not_not.1 h0;subst h0
 by_cases h1:q<1∨10000<q
 ·rw[if_pos h1]at hs;rw[setErr_2 hW h1]at hr⊢;rw[if_neg (by decide)]at hr;rw[hs,hr];exact⟨rfl,⟨rfl,rfl,rfl⟩⟩
 rw[if_neg h1]at hs;obtain⟨hv, -⟩:=wrong_zero hW.symm;obtain⟨T,hC⟩:=certs_ml hwf hv;have hR:=Ver.verify_iff.1 hv;have hst:=Vm.settled_at hC (q:=q) (by omega) (by omega) ps;change Vm.SetAt m.mdl (Vm.settled m.mdl ps q)at hst;rw[setErr_3 hW h1]at hr⊢;obtain hse|⟨d,hse⟩:Vm.settled m.mdl ps q=none∨∃d,Vm.settled m.mdl ps q=some d:=by
  cases Vm.settled m.mdl ps q with
  |none=>exact .inl rfl
  |some d=>exact .inr ⟨d,rfl⟩
 ·rw[hse]at hst;rw[if_pos hse]at hr⊢;rw[if_neg (by decide)]at hr;rcases hs with⟨hs, -⟩|⟨-,c,hc, -⟩
  ·rw[hs,hr];exact⟨rfl,⟨rfl,rfl,rfl⟩⟩
  ·exact(Vm.settle_never hC hR hc hst).elim
 ·rw[hse]at hst;have hne:¬Vm.settled m.mdl ps q=none:=by rw[hse];simp
  rw[if_neg hne]at hr⊢;rw[if_pos rfl]at hr;rcases hs with⟨-,hs⟩|⟨hs,c,hc,hi⟩
  ·exact(Vm.settle_never hC hR hst hs).elim
  ·obtain⟨c',e1,e2⟩:=hr;rw[hse]at e1
   cases e1
   obtain⟨g1,g2,g3⟩:=Vm.settle_same hC hR hst hc;exact⟨hs.symm,⟨by rw[e2.ends,hi.ends,g1],by rw[e2.rows,hi.rows];exact g2,by rw[e2.n,hi.n];exact g3⟩⟩
theorem run_small{m:ML}{ps:List (Int×Int)}{a:RunL}(ha:RunIs m ps a):a.l.length≤400:=by
 unfold RunIs at ha
 by_cases h1:Vm.wrong m.mdl ps.length=0
 ·rw[if_pos h1]at ha;rw[ha.l,Vm.picks_len];exact(wrong_zero h1).2
 ·rw[if_neg h1]at ha;rw[ha];exact Nat.zero_le _
attribute [local irreducible] Run Cod End OpT Still RunQ RunS RunT Fn PutOk
attribute [local irreducible] Ver.verify Vm.wrong Vm.picks Vm.setErr Vm.settled SetIs SetR
set_option maxHeartbeats 2000000 in
theorem schedTells_is(m:ML)(hwf:m.Wf)(ps:PkL)(q:Int):Fn Tryz.prog 4 #[m.val,ps.val, .int .i64 q] [md m,pkR ps] [] (σ:=Unit) (fun _=>True) (fun _=> .bool true) (fun _=>[]):=by
 refine Fn.enter (args:=[m.val,ps.val, .int .i64 q]) Tryz.func4 rfl _ Tryz.ntmps4 rfl (by simp[md_excl,rd_excl]) (fun w S=>?_);(refine Jn ?_)
 repeat(refine Jy ?_;try first|intro ao cap|intro b)
 obtain⟨mb,rfl⟩:∃x,x=b:=⟨_,rfl⟩;(refine Jc ?_;refine OpT.call0_ (spec:=run_is m hwf ps) (r:=(fun w=>Reads.md (tk) (Reads.rd (tk) .nil))) (k:=?_);intro s hs;(refine Jn ?_));obtain⟨r,rfl⟩:∃x,x=s:=⟨_,rfl⟩;have ha:=hs
 repeat(refine Jy ?_;try first|intro ao cap|intro b)
 obtain⟨rb,rfl⟩:∃x,x=b:=⟨_,rfl⟩;(refine Jc ?_;refine OpT.call0_ (spec:=run10_is m hwf ps) (r:=(fun w=>Reads.md (tk) (Reads.rd (tk) .nil))) (k:=?_);intro s hs;(refine Jn ?_));obtain⟨v,rfl⟩:∃x,x=s:=⟨_,rfl⟩;have hb:=hs;obtain⟨he,hl⟩:=run_eq ha hb;have hsm:=run_small ha;clear hs ha hb;obtain⟨rA,ro,rc,rl⟩:=r;obtain⟨vA,vo,vc,vl⟩:=v;dsimp only at he hl hsm⊢;subst hl;generalize Vm.wrong m.mdl ps.l.length=W1 at *
 repeat(refine Jy ?_;try first|intro ao cap|intro b)
 obtain⟨vb,rfl⟩:∃x,x=b:=⟨_,rfl⟩;apply Run.imp' (fun w hm=>wo_own rA (tks) hm);apply Run.imp' (fun w hm=>wo_own vA (tks) hm);(refine Jn ?_);(refine Jc ?_;refine OpT.call0_ (spec:=same10_is rA vA he) (r:=(fun w=>Reads.any (tk) ed_excl (Reads.any (tk) fd_excl (Reads.any (tk) ed_excl (Reads.any (tk) fd_excl .nil))))) (k:=?_);intro s hs;(refine Jn ?_))
 repeat(refine Jy ?_;try first|intro ao cap|intro b)
 refine Cod.only ((fun _=>[old w S,md m,pkR ps,blk mb (mdV m) 25,blk rb rA.cells 36,blk vb vA.cells 36,arr ro rl.length rc 42 ddC rl,arr vo rl.length vc 42 ddC rl]) 0) (tks) ?_;apply Cod.loop (σ:=Nat) (fun k=>k≤rl.length) (fun k=>[(1,ps.val),(2, .int .i64 q),(3,ptr mb),(7,ptr rb),(8, .slice ro rl.length rc),(10,ptr vb),(11, .slice vo rl.length vc),(45, .int .i64 (rl.length:Int)),(46, .int .i64 (k:Int))]) (fun _=>[old w S,md m,pkR ps,blk mb (mdV m) 25,blk rb rA.cells 36,blk vb vA.cells 36,arr ro rl.length rc 42 ddC rl,arr vo rl.length vc 42 ddC rl]) (fun k=>rl.length-k) 0
 rotate_left
 exact sb;exact tks;intro k hk K1 hK1;(refine Jn ?_)
 rotate_left
 ·exact Nat.zero_le _
 by_cases hkn:k<rl.length
 ·repeat(refine Jy ?_;try first|intro ao cap|intro b)
  refine RunQ.val_ (h:=by exact Still.neqDd (a:=rl.getD k default) rfl rfl rfl rfl) (k:=?_)
  repeat(refine Jy ?_;try first|intro ao cap|intro b)
  refine End.round0_ hK1 (k+1) ?_ ?_
  ·omega
  ·omega
 ·clear hK1
  repeat(refine Jy ?_;try first|intro ao cap|intro b)
  (refine Jc ?_;refine OpT.call0_ (spec:=settle_is m hwf ps q) (r:=(fun w=>Reads.md (tk) (Reads.rd (tk) .nil))) (k:=?_);intro s hs;(refine Jn ?_));obtain⟨r,rfl⟩:∃x,x=s:=⟨_,rfl⟩;have ha:=hs
  repeat(refine Jy ?_;try first|intro ao cap|intro b)
  (refine Jc ?_;refine OpT.call0_ (spec:=settle10_is m hwf ps q) (r:=(fun w=>Reads.md (tk) (Reads.rd (tk) .nil))) (k:=?_);intro s hs;(refine Jn ?_));obtain⟨v,rfl⟩:∃x,x=s:=⟨_,rfl⟩;have hb:=hs;obtain⟨e1,e2⟩:=set_eq hwf ha hb;clear hs ha hb;rw[e1];clear e1;obtain⟨v,er⟩:=v;dsimp only at e2⊢
  repeat(refine Jy ?_;try first|intro ao cap|intro b)
  apply Run.imp' (fun w hm=>wo_own r (tks) hm);apply Run.imp' (fun w hm=>wo_own v (tks) hm);(refine Jn ?_);(refine Jc ?_;refine OpT.call0_ (spec:=same10_is r v e2) (r:=(fun w=>Reads.any (tk) ed_excl (Reads.any (tk) fd_excl (Reads.any (tk) ed_excl (Reads.any (tk) fd_excl .nil))))) (k:=?_);intro s hs;(refine Jn ?_))
  repeat(refine Jy ?_;try first|intro ao cap|intro b)
  (refine End.done1_ (()) (he:=Jv) (hp:=?_));trivial
end Go.Proofs.YtjehflelkpacfaaGreat.Vw
