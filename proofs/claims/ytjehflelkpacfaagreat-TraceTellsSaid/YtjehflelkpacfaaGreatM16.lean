/- verify's flow, walked: a unit's code. -/
import Derived.Test.YtjehflelkpacfaaGreatM15
set_option linter.unusedVariables false
set_option linter.unusedSimpArgs false
set_option linter.unusedSectionVars false
set_option maxRecDepth 100000
namespace Go.Proofs.YtjehflelkpacfaaGreat.Vw
open Go.RowKit Go.Proofs.YtjehflelkpacfaaGreat.Img
section
attribute [local irreducible] Run Cod End OpT Still RunQ RunS RunT Fn PutOk
def has0(L p:Nat):List Bool:=List.replicate p true ++List.replicate (L-p) false
theorem has0_len{L p:Nat}(h:p≤L):(has0 L p).length=L:=by simp[has0];omega
theorem has0_set{L p:Nat}(h:p<L):(has0 L p).set p true=has0 L (p+1):=by
 unfold has0;rw[List.set_append_right _ _ (by simp)];obtain⟨j,hj⟩:∃j,L-p=j+1:=⟨L-p-1,by omega⟩;rw[hj,show L-(p+1)=j by omega,List.replicate_succ' (n:=p)];simp[List.replicate_succ]
theorem ix_zero:(0:Int)=((0:Nat):Int):=rfl
theorem nil_or_cons(l:List Int):l=[]∨∃p r,l=p::r:=by cases l<;>simp
theorem code_is(cb mb:Nat)(m:ML)(q:Nat)(hq:q<m.us.length)(hf:Formed m)(hwf:m.Wf):Fn Tryz.prog 40 #[ptr cb, .int .i64 (q:Int)] [md m] (ck cb mb m) (σ:=Unit) (fun _=>True) (fun _=>whereV (Ver.code m.mdl q)) (fun _=>ck cb mb m):=by
 obtain⟨h1,h2,h3,h4,h5,h6⟩:=head_ok (hf.head q hq);have hgood:=hf.good hwf hq;obtain⟨W,hW⟩:∃W,W=Ver.code m.mdl q:=⟨_,rfl⟩;rw[←hW];unfold Ver.code at hW;rw[ML.unit_at]at hW;refine JE [ptr cb, .int .i64 (q:Int)] Tryz.func40 Tryz.ntmps40 fun w S=>?_
 (refine Jn ?_);have hlc:((m.us.getD q default).u.locals.length:Int)=((m.us.getD q default).u.locals.length:Nat):=rfl;obtain⟨P,hP⟩:∃P:Nat,(m.us.getD q default).u.params=(P:Int):=JI h2;generalize hL:(m.us.getD q default).u.locals.length=L at *
 repeat(refine Jy ?_;try first|intro ao cap|intro b)
 obtain⟨wb,rfl⟩:∃x,x=b:=⟨_,rfl⟩;apply Run.op (by exact rfl);refine OpT.makeMap_ shV (k:=?_);intro ab
 repeat(refine Jy ?_;try first|intro ao cap|intro b)
 obtain⟨fb,rfl⟩:∃x,x=b:=⟨_,rfl⟩;apply Run.op (by exact rfl);refine OpT.makeSlice_ (f:=boolc) (iα:=inferInstance) (ef:=inferInstance) (z:=false) (n:=L) (hj:=by rw[hL]) (hj':=by rw[hL]) (k:=?_);intro hb
 repeat(refine Jy ?_;try first|intro ao cap|intro b)
 apply Cod.imp (fun w hm=>((hm.nilArr 3 i64c).nilArr 3 i64c).bagNil);apply Cod.loop (σ:=Nat) (fun k=>k≤P) (fun k=>[(0,ptr cb),(1, .int .i64 (q:Int)),(4,ptr wb),(5,up m q),(6,ptr fb),(36, .int .i64 (m.us.getD q default).u.params),(37, .int .i64 (k:Int))]) (fun k=>[old w S,md m,blk cb [.pointer (some ⟨mb,0,none⟩)] 108,blk mb [.slice m.bo m.bx.length m.bc, .slice m.uo m.us.length m.uc] 25,blk wb [.int .i64 0, .int .i64 0, .int .i64 0] 87,blk fb [ptr cb,up m q, .map (some ab), .slice none 0 0, .slice none 0 0, .slice (some ⟨hb,0,none⟩) L L, .int .i64 0] 161,arr none 0 0 3 i64c [],arr none 0 0 3 i64c [],arr (some ⟨hb,0,none⟩) L L 4 boolc (has0 L k),mp ab shV [],bag []]) (fun k=>P-k) 0
 rotate_left
 exact sb;exact tks;intro k hs K1 hK1;(refine Jn ?_)
 rotate_left
 ·exact Nat.zero_le _
 by_cases hk:k<P
 ·repeat(refine Jy ?_;try first|intro ao cap|intro b)
  apply Run.op (by exact rfl);refine OpT.storeE_ (a':=true) (k:=?_);rw[has0_set (show k<L by omega)]
  repeat(refine Jy ?_;try first|intro ao cap|intro b)
  refine End.round0_ hK1 (k+1) ?_ ?_
  ·omega
  ·omega
 obtain rfl:k=P:=by omega
 clear hK1 hs hk;have hL0:(has0 L k).length=L:=has0_len (by omega);have hst:Ver.start (m.us.getD q default).u=Ver.to (m.us.getD q default).u.code.length 0 (flow (⟨[],[],none,0,has0 L k,some ⟨hb,0,none⟩,L⟩:FR) (⟨[],none,0,0⟩:FS)):=by
  unfold Ver.start;rw[hP,hL,Jj];rfl
 rw[hst]at hW;have hinv0:Ver.Inv (m.us.getD q default).u.code.length L (flow (⟨[],[],none,0,has0 L k,some ⟨hb,0,none⟩,L⟩:FR) (⟨[],none,0,0⟩:FS)):=
  ⟨hL0,(fun p s h=>by cases h),(fun p h=>by cases h)⟩
 have hw0:=Ver.to_went hinv0 (p:=0) (by omega) (by omega) (fun _=>Nat.zero_le _) (fun t h=>by cases h);have he0:(Ver.to (m.us.getD q default).u.code.length 0 (flow (⟨[],[],none,0,has0 L k,some ⟨hb,0,none⟩,L⟩:FR) (⟨[],none,0,0⟩:FS))).err=0:=by
  unfold Ver.to;rw[if_neg (fun h=>h rfl),if_neg (by omega)];rfl
 have hmu0:=hw0.mu;have hst0:=hw0.stack;have hm0:Ver.most (m.us.getD q default).u=2*((m.us.getD q default).u.code.length*(L+1))+1:=by unfold Ver.most;rw[hL]
 have hcl:(m.us.getD q default).u.code.length*(L+1)≤4000*201:=Nat.mul_le_mul h6 (by omega)
 repeat(refine Jy ?_;try first|intro ao cap|intro b)
 (refine Jc ?_;refine OpT.call0_ (spec:=to_is fb cb ab m q hq ⟨[],[],none,0,has0 L k,some ⟨hb,0,none⟩,L⟩ ⟨[],none,0,0⟩ 0 (by simp) (by show(has0 L k).length≤1000;omega) (by simp) (fun x h=>by cases h)) (t:=Jx) (k:=?_);intro s hs;(refine Jn ?_));rw[←hs]at hW hw0 he0 hmu0 hst0;clear hs hst;obtain⟨r,z⟩:=s;have hmu1:r.todo.length+Ver.room (m.us.getD q default).u.code.length L (flow r z).at_≤(m.us.getD q default).u.code.length*(L+1):=by
  rw[←Ver.room_nil];have:(flow r z).todo.length+Ver.room (m.us.getD q default).u.code.length L (flow r z).at_≤0+Ver.room (m.us.getD q default).u.code.length L []:=hmu0;rw[Nat.zero_add]at this;exact this
 have hzl:z.st.length≤301:=by
  have:z.st=[]:=hst0;rw[this];simp
 repeat(refine Jy ?_;try first|intro ao cap|intro b)
 apply Cod.loop (σ:=FR×FS×Nat) (fun s=>Ver.Inv (m.us.getD q default).u.code.length L (flow s.1 s.2.1)∧s.2.1.err=0∧s.2.1.st.length≤301∧W=Ver.run m.mdl (m.us.getD q default).u q s.2.2 (flow s.1 s.2.1)∧s.1.todo.length+Ver.room (m.us.getD q default).u.code.length L (flow s.1 s.2.1).at_≤s.2.2∧s.2.2≤2000000) (fun s=>[(0,ptr cb),(1, .int .i64 (q:Int)),(4,ptr wb),(5,up m q),(6,ptr fb)]) (fun s=>old w S::md m::blk wb [.int .i64 0, .int .i64 0, .int .i64 0] 87::(fa fb cb ab (up m q) s.1 s.2.1 ++ck cb mb m)) (fun s=>s.2.2) (r,z,Ver.most (m.us.getD q default).u)
 rotate_left
 exact sb;exact tks;intro s hs KM hKM;(refine Jn ?_)
 rotate_left
 ·exact⟨hw0.inv,he0,hzl,hW,by simp only;omega,by simp only;omega⟩
 clear hW hw0 he0 hmu0 hst0 hmu1 hzl r z hinv0;obtain⟨r,z,fuel⟩:=s;obtain⟨hinv,he,hzl,hW,hmu,hfu⟩:=hs;simp only at hinv he hzl hW hmu hfu hKM⊢;rcases nil_or_cons r.todo with hT|⟨p,rest,hT⟩
 ·have hWo:W=⟨0,0,0⟩:=by
   rw[hW]
   cases fuel with
   |zero=>rfl
   |succ j=>unfold Ver.run;rw[show(flow r z).todo=[]from hT];rfl
  have hlen:r.todo.length=0:=by rw[hT];rfl
  repeat(refine Jy ?_;try first|intro ao cap|intro b)
  (refine End.doneC1_ (()) (he:=by exact where_eq hWo) (hp:=?_));trivial
 ·have hlen:r.todo.length=rest.length+1:=by rw[hT];rfl
  have hgp:r.todo.getD 0 default=p:=by rw[hT];rfl
  have hdp:r.todo.drop 1=rest:=by rw[hT];rfl
  obtain⟨j,rfl⟩:∃j,fuel=j+1:=⟨fuel-1,by omega⟩;obtain⟨hp0,hpn,hps⟩:=hinv.todo p (by rw[show(flow r z).todo=_ from hT];exact List.mem_cons_self);have hx0:Ver.find (flow r z).at_ p=(mfind r.ents p).map fun x=>(x.st,x.hs):=mfind_at r.ents p
  obtain⟨x,hx⟩:∃x,mfind r.ents p=some x:=by
   rw[hx0]at hps
   cases hm:mfind r.ents p with
   |none=>rw[hm]at hps;cases hps
   |some x=>exact⟨x,rfl⟩
  rw[hx]at hx0;simp only[Option.map_some]at hx0;obtain⟨g1,g2,g3⟩:=hinv.ent p _ hx0;simp only at g1 g2 g3;have hmem:=inner_mem r.ents p x hx;have hm1:arr x.so x.st.length x.sc 3 i64c x.st∈inner r.ents:=hmem _ (by simp);have hm2:arr x.ho x.hs.length x.hc 4 boolc x.hs∈inner r.ents:=hmem _ (by simp);have hin:Ver.instr m.mdl (m.us.getD q default).u ((m.us.getD q default).u.code.getD p.toNat default)=0:=hf.instr q hq _ (getD_mem (by omega));rw[←hgp]at hx hin hp0 hpn;have hrun:W=if(Ver.round m.mdl (m.us.getD q default).u p rest (flow r z)).err≠0 then⟨(Ver.round m.mdl (m.us.getD q default).u p rest (flow r z)).err,q,p⟩else Ver.run m.mdl (m.us.getD q default).u q j (Ver.round m.mdl (m.us.getD q default).u p rest (flow r z)):=by
   rw[hW]
   conv=>lhs;unfold Ver.run
   rw[show(flow r z).todo=p::rest from hT]
  clear hW
  repeat(refine Jy ?_;try first|intro ao cap|intro b)
  (apply Run.op;exact rfl;refine OpT.val_ (h:=by(apply Still.at_;exact rfl;exact rfl;exact Jr;exact rfl;exact rfl;exact rfl;exact ix_zero;omega)) (k:=?_))
  repeat(refine Jy ?_;try first|intro ao cap|intro b)
  (refine JQ (copied_is x (by omega) (by omega)) ?_;intro s hs;(refine Jn ?_));obtain⟨y,rfl⟩:∃y,y=s:=⟨_,rfl⟩;obtain⟨hy1,hy2⟩:=hs
  repeat(refine Jy ?_;try first|intro ao cap|intro b)
  have hfl:flow ⟨r.ents,r.todo.drop 1,ao,cap,y.hs,y.ho,y.hc⟩ ⟨y.st,y.so,y.sc,z.err⟩={flow r z with todo:=rest,stack:=x.st,has:=x.hs}:=by
   unfold flow;simp only[hy1,hy2,hdp];rfl
  have hinv1:Ver.Inv (m.us.getD q default).u.code.length L (flow ⟨r.ents,r.todo.drop 1,ao,cap,y.hs,y.ho,y.hc⟩ ⟨y.st,y.so,y.sc,z.err⟩):=by
   rw[hfl];exact⟨g3,hinv.ent,fun t ht=>hinv.todo t (by rw[show(flow r z).todo=_ from hT];exact List.mem_cons_of_mem _ ht)⟩
  have hyl:y.st.length≤300:=by rw[hy1];exact g1
  have hyt:∀t∈y.st,ImgM.In64 t:=by rw[hy1];exact g2
  have hgone:=Ver.step_gone hgood (Ver.instr_ok hin) rfl hL.symm hinv1 hyl hyt;have hround:Ver.round m.mdl (m.us.getD q default).u p rest (flow r z)=if(Ver.step m.mdl (m.us.getD q default).u ((m.us.getD q default).u.code.getD (r.todo.getD 0 default).toNat default) (flow ⟨r.ents,r.todo.drop 1,ao,cap,y.hs,y.ho,y.hc⟩ ⟨y.st,y.so,y.sc,z.err⟩)).1=true then Ver.to (m.us.getD q default).u.code.length (p+1) (Ver.step m.mdl (m.us.getD q default).u ((m.us.getD q default).u.code.getD (r.todo.getD 0 default).toNat default) (flow ⟨r.ents,r.todo.drop 1,ao,cap,y.hs,y.ho,y.hc⟩ ⟨y.st,y.so,y.sc,z.err⟩)).2 else(Ver.step m.mdl (m.us.getD q default).u ((m.us.getD q default).u.code.getD (r.todo.getD 0 default).toNat default) (flow ⟨r.ents,r.todo.drop 1,ao,cap,y.hs,y.ho,y.hc⟩ ⟨y.st,y.so,y.sc,z.err⟩)).2:=by
   unfold Ver.round;rw[hx0,hfl,hgp];rfl
  have hmu1:(flow ⟨r.ents,r.todo.drop 1,ao,cap,y.hs,y.ho,y.hc⟩ ⟨y.st,y.so,y.sc,z.err⟩).todo.length+Ver.room (m.us.getD q default).u.code.length L (flow ⟨r.ents,r.todo.drop 1,ao,cap,y.hs,y.ho,y.hc⟩ ⟨y.st,y.so,y.sc,z.err⟩).at_≤j:=by
   rw[hfl];have:(flow r z).at_=({flow r z with todo:=rest,stack:=x.st,has:=x.hs}:Ver.Flow).at_:=rfl;rw[this]at hmu;simp only at hmu⊢;omega
  have hdl:(r.todo.drop 1).length≤1000000000:=by rw[hdp];omega
  (refine Jc ?_;refine OpT.call0_ (spec:=step_any fb cb ab mb m ⟨r.ents,r.todo.drop 1,ao,cap,y.hs,y.ho,y.hc⟩ ⟨y.st,y.so,y.sc,z.err⟩ q hq hf (by rw[hL];exact hinv1) hyl hyt hdl _ hin) (t:=Jx) (k:=?_);intro s hs;(refine Jn ?_));obtain⟨G,hG⟩:∃G,G=Ver.step m.mdl (m.us.getD q default).u ((m.us.getD q default).u.code.getD (r.todo.getD 0 default).toNat default) (flow ⟨r.ents,r.todo.drop 1,ao,cap,y.hs,y.ho,y.hc⟩ ⟨y.st,y.so,y.sc,z.err⟩):=⟨_,rfl⟩;rw[←hG]at hs hround hgone;obtain⟨b1,g⟩:=G;simp only at hs hround hgone;apply Run.look (d:=88) (v':= .bool b1) (by exact rfl) (by rw[←hG]);clear hG;have hsl:s.2.st.length≤301:=by
   have:s.2.st=g.stack:=congrArg Ver.Flow.stack hs;rw[this];exact hgone.len
  have hsi:Ver.Inv (m.us.getD q default).u.code.length L (flow s.1 s.2):=by rw[hs];exact hgone.inv
  have hsm:s.1.todo.length+Ver.room (m.us.getD q default).u.code.length L (flow s.1 s.2).at_≤j:=by
   have:=hgone.mu;rw[←hs]at this;exact Nat.le_trans this hmu1
  cases b1 with
  |true=>
   rw[if_pos rfl]at hround;have hsh:=hsi.has;have hw2:=Ver.to_went hsi (p:=p+1) (by omega) (by omega) (by rw[hs];exact hgone.ok) (by rw[hs];exact hgone.ty);rw[←hs]at hround
   repeat(refine Jy ?_;try first|intro ao cap|intro b)
   obtain⟨s1,rfl⟩:∃s1,s1=s:=⟨_,rfl⟩;have hent1:∀x,mfind s1.1.ents (r.todo.getD 0 default+1)=some x→x.st.length≤1000∧x.hs.length=s1.1.has.length:=fun x hx=>by
    obtain⟨q1,q2,q3⟩:=ent_of hsi _ x hx;exact⟨by omega,by rw[q3];exact hsh.symm⟩
   have hsh1:s1.1.has.length≤1000:=by rw[show s1.1.has.length=L from hsh];omega
   have hs1:=hs;clear hs;(refine Jc ?_;refine OpT.call0_ (spec:=to_is fb cb ab m q hq s1.1 s1.2 (r.todo.getD 0 default+1) (by omega) hsh1 (by omega) hent1) (t:=Jx) (k:=?_);intro s hs;(refine Jn ?_));rw[hgp]at hs;have hfin:Ver.Inv (m.us.getD q default).u.code.length L (flow s.1 s.2)∧s.2.st.length≤301∧s.1.todo.length+Ver.room (m.us.getD q default).u.code.length L (flow s.1 s.2).at_≤j:=by
    have e1:s.2.st=(flow s1.1 s1.2).stack:=(congrArg Ver.Flow.stack hs).trans hw2.stack;refine⟨by rw[hs];exact hw2.inv,by rw[e1];exact hsl,?_⟩;have:=hw2.mu;rw[←hs]at this;exact Nat.le_trans this hsm
   rw[←hs]at hround;clear hs;have hrd:=hround
   by_cases he2:s.2.err=0
   ·rw[if_neg (fun h=>h (show(Ver.round m.mdl (m.us.getD q default).u p rest (flow r z)).err=0 by rw[hround];exact he2)),hround]at hrun
    repeat(refine Jy ?_;try first|intro ao cap|intro b)
    refine End.round0_ hKM (s.1,s.2,j) ?_ ?_
    ·exact⟨hfin.1,he2,hfin.2.1,hrun,by simp only;exact hfin.2.2,by simp only;omega⟩
    ·simp only;omega
   ·rw[if_pos (show(Ver.round m.mdl (m.us.getD q default).u p rest (flow r z)).err≠0 by rw[hround];exact he2),hround]at hrun
    repeat(refine Jy ?_;try first|intro ao cap|intro b)
    (refine End.doneC1_ (()) (he:=by refine where_eq (hrun.trans ?_);rw[hgp];rfl) (hp:=?_));trivial
  |false=>
   rw[if_neg (by decide)]at hround;rw[←hs]at hround;have hfin:=And.intro hsi (And.intro hsl hsm)
   by_cases he2:s.2.err=0
   ·rw[if_neg (fun h=>h (show(Ver.round m.mdl (m.us.getD q default).u p rest (flow r z)).err=0 by rw[hround];exact he2)),hround]at hrun
    repeat(refine Jy ?_;try first|intro ao cap|intro b)
    refine End.round0_ hKM (s.1,s.2,j) ?_ ?_
    ·exact⟨hfin.1,he2,hfin.2.1,hrun,by simp only;exact hfin.2.2,by simp only;omega⟩
    ·simp only;omega
   ·rw[if_pos (show(Ver.round m.mdl (m.us.getD q default).u p rest (flow r z)).err≠0 by rw[hround];exact he2),hround]at hrun
    repeat(refine Jy ?_;try first|intro ao cap|intro b)
    (refine End.doneC1_ (()) (he:=by refine where_eq (hrun.trans ?_);rw[hgp];rfl) (hp:=?_));trivial
end
section
attribute [local irreducible] Run Cod End OpT Still RunQ RunS RunT Fn PutOk
theorem Formed.calls{m:ML}(hf:Formed m):∀k,k<m.us.length→∀i∈(m.mdl.units.getD k default).code,i.op=23∨i.op=29→0≤i.a∧i.a<(m.us.length:Int):=by
 intro k hk i hi ho;rw[ML.unit_at]at hi;have h:=Ver.instr_ok (hf.instr k hk i hi);have hn:m.mdl.units.length=m.us.length:=by simp
 rcases ho with ho|ho
 ·obtain⟨h1,h2, -⟩:=Ver.unit_eq (h.call ho);rw[hn]at h2;exact⟨h1,h2⟩
 ·obtain⟨h1,h2, -⟩:=Ver.unit_eq (h.start ho);rw[hn]at h2;exact⟨h1,h2⟩
theorem reach_is(cb mb:Nat)(m:ML)(hf:Formed m)(q:Nat)(hq:q<m.us.length):Fn Tryz.prog 69 #[ptr cb, .int .i64 (q:Int)] [md m] (ck cb mb m) (σ:=Option Addr×Nat) (fun _=>True) (fun s=> .slice s.1 (Ver.reach m.mdl q).length s.2) (fun s=>arr s.1 (Ver.reach m.mdl q).length s.2 3 i64c (Ver.reach m.mdl q)::ck cb mb m):=by
 have hN:=hf.units;obtain⟨R,hR⟩:∃R,R=Ver.reach m.mdl q:=⟨_,rfl⟩;rw[←hR];have hR0:R=Ver.reachRun m.mdl (m.us.length+1) 0 [(q:Int)]:=by rw[hR];unfold Ver.reach;simp
 clear hR;refine JE [ptr cb, .int .i64 (q:Int)] Tryz.func69 Tryz.ntmps69 fun w S=>?_
 (refine Jn ?_)
 repeat(refine Jy ?_;try first|intro ao cap|intro b)
 apply Cod.imp (fun w hm=>hm.toArr (f:=i64c) tk [(q:Int)] rfl rfl (by unfold maxLen;simp));apply Cod.loop (σ:=Nat×List Int×Option Addr×Nat×Nat) (fun s=>Ver.Once m.us.length s.2.1∧s.1≤s.2.1.length∧s.2.1.length=s.2.2.2.2∧R=Ver.reachRun m.mdl (m.us.length+1-s.1) s.1 s.2.1) (fun s=>[(0,ptr cb),(5, .slice s.2.2.1 s.2.2.2.2 s.2.2.2.1),(6, .int .i64 (s.1:Int))]) (fun s=>old w S::md m::arr s.2.2.1 s.2.2.2.2 s.2.2.2.1 3 i64c s.2.1::ck cb mb m) (fun s=>m.us.length+1-s.1) (0,[(q:Int)],some ⟨b,0,none⟩,1,1)
 rotate_left
 exact sb;exact tks;intro s hs K hK;(refine Jn ?_)
 rotate_left
 ·exact⟨Ver.Once.one hq,by simp,rfl,hR0⟩
 clear hR0;obtain⟨k,out,ao,cap,n⟩:=s;obtain⟨ho,hk,hn,hRk⟩:=hs;simp only at ho hk hn hRk hK⊢;have hol:=ho.len
 by_cases hkn:k<n
 ·have hx:=ho.ok (out.getD k default) (getD_mem (by omega));have hxl:(out.getD k default).toNat<m.us.length:=by omega
  have hrs:=Ver.reachRun_step (M:=m.mdl) (n:=m.us.length-k) (k:=k) (out:=out) (by omega);rw[show m.us.length+1-k=(m.us.length-k)+1 by omega,hrs,show out.getD k 0=out.getD k default from rfl,ML.unit_at]at hRk;have hcx:=hf.calls _ hxl;rw[ML.unit_at]at hcx;apply Cod.fact m.Small (fun w hm=>(md_holds.1 (hm.has tk)).small);intro hsm;have hcl:=hsm.co _ hxl;clear hrs
  repeat(refine Jy ?_;try first|intro ao cap|intro b)
  apply Cod.loop (σ:=Nat×List Int×Option Addr×Nat×Nat) (fun s=>s.1≤(m.us.getD (out.getD k default).toNat default).u.code.length∧Ver.Once m.us.length s.2.1∧s.2.1.length=s.2.2.2.2∧out.length≤s.2.1.length∧Ver.calls (m.us.getD (out.getD k default).toNat default).u.code out=Ver.calls ((m.us.getD (out.getD k default).toNat default).u.code.drop s.1) s.2.1) (fun s=>[(0,ptr cb),(5, .slice s.2.2.1 s.2.2.2.2 s.2.2.2.1),(6, .int .i64 (k:Int)),(30, .slice (m.us.getD (out.getD k default).toNat default).co (m.us.getD (out.getD k default).toNat default).u.code.length (m.us.getD (out.getD k default).toNat default).cc),(31, .int .i64 ((m.us.getD (out.getD k default).toNat default).u.code.length:Int)),(32, .int .i64 (s.1:Int))]) (fun s=>old w S::md m::arr s.2.2.1 s.2.2.2.2 s.2.2.2.1 3 i64c s.2.1::ck cb mb m) (fun s=>(m.us.getD (out.getD k default).toNat default).u.code.length-s.1) (0,out,ao,cap,n)
  rotate_left
  exact sb;exact tks;intro s hs KI hKI;(refine Jn ?_)
  rotate_left
  ·exact⟨Nat.zero_le _,ho,hn,Nat.le_refl _,rfl⟩
  obtain⟨j,o,ao1,cap1,n1⟩:=s;obtain⟨hj,ho1,hn1,hle1,hcj⟩:=hs;simp only at hj ho1 hn1 hle1 hcj hKI⊢;have hol1:=ho1.len
  by_cases hjl:j<(m.us.getD (out.getD k default).toNat default).u.code.length
  ·rw[drop_cons hjl,Ver.calls_cons]at hcj;have hia:=hcx _ (getD_mem hjl);have h1once:=Ver.call1_once ho1 hia;unfold Ver.call1 at hcj h1once
   repeat' (first|(refine Jc ?_;refine OpT.call0_ (spec:=contains_is _ _ _ _ hn1 (by omega) _) (k:=?_);intro s hs;(refine Jn ?_))|refine Jo ?_|(refine JB ?_;intro b)|(refine JA ?_;intro ao cap)|refine goQ (k:=fun h=>?_) (k':=fun h=>?_)|fail)
   all_goals first
    |(refine End.round0_ hKI (j+1,o ++[((m.us.getD (out.getD k default).toNat default).u.code.getD j default).a],ao,cap,n1+1) ?_ (by simp only;omega);rw[if_pos ⟨by omega,by assumption⟩]at hcj h1once;exact⟨by simp only;omega,h1once,by simp only[Jl,JW,List.length_nil];omega,by simp only[Jl,JW,List.length_nil];omega,hcj⟩)
    |(refine End.round0_ hKI (j+1,o,ao1,cap1,n1) ?_ (by simp only;omega);rw[if_neg (fun h'=>by first|exact h'.2 (by assumption)|(have:=h'.1;omega))]at hcj h1once;exact⟨by simp only;omega,h1once,hn1,hle1,hcj⟩)
  ·rw[List.drop_of_length_le (by omega),Ver.calls_nil]at hcj;rw[hcj]at hRk
   repeat(refine Jy ?_;try first|intro ao cap|intro b)
   refine End.round0_ hK (k+1,o,ao1,cap1,n1) ?_ ?_
   ·exact⟨ho1,by simp only;omega,hn1,by simp only;rw[hRk];congr 1;omega⟩
   ·simp only;omega
 ·rw[Ver.reachRun_end (by omega)]at hRk;subst hRk;subst hn
  repeat(refine Jy ?_;try first|intro ao cap|intro b)
  (refine End.done1_ ((ao,cap)) (he:=Jv) (hp:=?_));trivial
abbrev intB(b:Nat)(v:Int):Chunk:=blk b [.int .i64 v] 3
abbrev oc(pc ob bb cb mb:Nat)(op bx:Int)(m:ML):List Chunk:=blk pc [ptr cb] 106::intB ob op::intB bb bx::ck cb mb m
theorem owned11_is(pc ob bb cb mb:Nat)(op bx:Int)(m:ML)(i:ImgM.Ins):Fn Tryz.prog 72 #[insV i,ptr ob,ptr bb] [md m] (oc pc ob bb cb mb op bx m) (σ:=Unit) (fun _=>True) (fun _=> .bool (decide (i.op=op)&&decide (i.a=bx))) (fun _=>oc pc ob bb cb mb op bx m):=by
 refine JE [insV i,ptr ob,ptr bb] Tryz.func72 Tryz.ntmps72 fun w S=>?_
 (refine Jn ?_)
 repeat' (first|refine Jo ?_|(refine JB ?_;intro b)|(refine JA ?_;intro ao cap)|refine goQ (k:=fun h=>?_) (k':=fun h=>?_)|fail)
 all_goals ((refine End.done1_ (()) (he:=by refine bool_eq ?_;(first|(simp[*];done)|(simp[];omega)|(rw[Bool.eq_iff_iff];simp[];omega)|(simp[*];intros;omega))) (hp:=?_));trivial)
theorem owned1_is(pc ob bb cb mb:Nat)(op bx:Int)(m:ML)(x:Nat)(hx:x<m.us.length)(hsm:m.Small):Fn Tryz.prog 70 #[.int .i64 (x:Int),ptr pc,ptr ob,ptr bb] [md m] (oc pc ob bb cb mb op bx m) (σ:=Unit) (fun _=>True) (fun _=> .bool ((m.us.getD x default).u.code.any fun i=>decide (i.op=op)&&decide (i.a=bx))) (fun _=>oc pc ob bb cb mb op bx m):=by
 refine JE [.int .i64 (x:Int),ptr pc,ptr ob,ptr bb] Tryz.func70 Tryz.ntmps70 fun w S=>?_
 (refine Jn ?_)
 repeat(refine Jy ?_;try first|intro ao cap|intro b)
 (apply Run.op;exact rfl;refine OpT.call0_ (spec:=containsFuncN_is _ _ _ _ rfl (hsm.co x hx) _ [ptr ob,ptr bb] (md m) md_excl (oc pc ob bb cb mb op bx m) (by simp[blk_excl]) (fun i=>decide (i.op=op)&&decide (i.a=bx)) (by kernel_rfl) (fun i hi=>owned11_is pc ob bb cb mb op bx m i)) (k:=?_);intro s hs;(refine Jn ?_))
 repeat(refine Jy ?_;try first|intro ao cap|intro b)
 (refine End.done1_ (()) (he:=by rfl) (hp:=?_));trivial
set_option maxHeartbeats 1000000 in
theorem owned_is(cb mb:Nat)(m:ML)(hf:Formed m):Fn Tryz.prog 41 #[ptr cb] [md m] (ck cb mb m) (σ:=Unit) (fun _=>True) (fun _=>whereV (Ver.owned m.mdl 0 m.bx.length)) (fun _=>ck cb mb m):=by
 have hN:=hf.units;have hB:=hf.boxes;obtain⟨W,hW⟩:∃W,W=Ver.owned m.mdl 0 m.bx.length:=⟨_,rfl⟩;rw[←hW];have hnu:m.mdl.units.length=m.us.length:=by simp
 refine JE [ptr cb] Tryz.func41 Tryz.ntmps41 fun w S=>?_
 (refine Jn ?_);apply Cod.fact m.Small (fun w hm=>(md_holds.1 (hm.has tk)).small);intro hsm
 repeat(refine Jy ?_;try first|intro ao cap|intro b)
 obtain⟨wb,rfl⟩:∃x,x=b:=⟨_,rfl⟩;obtain⟨pc,rfl⟩:∃x,x=b:=⟨_,rfl⟩;apply Cod.loop (σ:=Nat) (fun k=>k≤m.bx.length∧W=Ver.owned m.mdl k (m.bx.length-k)) (fun k=>[(0,ptr cb),(1,ptr pc),(2,ptr wb),(16, .int .i64 (m.bx.length:Int)),(17, .int .i64 (k:Int))]) (fun _=>old w S::md m::blk wb [.int .i64 0, .int .i64 0, .int .i64 0] 87::blk pc [ptr cb] 106::ck cb mb m) (fun k=>m.bx.length-k) 0
 rotate_left
 exact sb;exact tks;intro bx hs K1 hK1;(refine Jn ?_)
 rotate_left
 ·exact⟨Nat.zero_le _,hW⟩
 obtain⟨hb,hWb⟩:=hs
 by_cases hbl:bx<m.bx.length
 ·rw[show m.bx.length-bx=(m.bx.length-(bx+1))+1 by omega]at hWb
  repeat(refine Jy ?_;try first|intro ao cap|intro b)
  obtain⟨sl,rfl⟩:∃x,x=b:=⟨_,rfl⟩;obtain⟨bb,rfl⟩:∃x,x=b:=⟨_,rfl⟩;apply Cod.imp (fun w hm=>hm.toArr (f:=i64c) (n:=2) tk [26,27] rfl rfl (by unfold maxLen;omega));apply Cod.loop (σ:=Nat) (fun j=>j≤2∧(0<j→¬1<Ver.users m.mdl 26 bx)∧(1<j→¬1<Ver.users m.mdl 27 bx)) (fun j=>[(0,ptr cb),(1,ptr pc),(2,ptr wb),(3,ptr bb),(16, .int .i64 (m.bx.length:Int)),(17, .int .i64 (bx:Int)),(20, .slice (some ⟨sl,0,none⟩) 2 2),(21, .int .i64 ((2:Nat):Int)),(22, .int .i64 (j:Int))]) (fun _=>old w S::md m::blk wb [.int .i64 0, .int .i64 0, .int .i64 0] 87::blk pc [ptr cb] 106::arr (some ⟨sl,0,none⟩) 2 2 3 i64c [26,27]::intB bb bx::ck cb mb m) (fun j=>2-j) 0
  rotate_left
  exact sb;exact tks;intro j hs K2 hK2;(refine Jn ?_)
  rotate_left
  ·exact⟨by omega,by omega,by omega⟩
  obtain⟨hj,hj0,hj1⟩:=hs
  by_cases hj2:j<2
  ·have hop:([26,27]:List Int).getD j default=26∧j=0∨([26,27]:List Int).getD j default=27∧j=1:=by
    rcases(by omega:j=0∨j=1)with rfl|rfl
    ·exact .inl ⟨rfl,rfl⟩
    ·exact .inr ⟨rfl,rfl⟩
   repeat(refine Jy ?_;try first|intro ao cap|intro b)
   obtain⟨ob,rfl⟩:∃x,x=b:=⟨_,rfl⟩;generalize([26,27]:List Int).getD j default=op at *;apply Cod.loop (σ:=Nat×Nat) (fun s=>s.1≤m.us.length∧s.2=Ver.usersTo m.mdl op bx s.1) (fun s=>[(0,ptr cb),(1,ptr pc),(2,ptr wb),(3,ptr bb),(5,ptr ob),(6, .int .i64 (s.2:Int)),(16, .int .i64 (m.bx.length:Int)),(17, .int .i64 (bx:Int)),(20, .slice (some ⟨sl,0,none⟩) 2 2),(21, .int .i64 ((2:Nat):Int)),(22, .int .i64 (j:Int)),(32, .slice m.uo m.us.length m.uc),(33, .int .i64 (m.us.length:Int)),(34, .int .i64 (s.1:Int))]) (fun _=>old w S::md m::blk wb [.int .i64 0, .int .i64 0, .int .i64 0] 87::blk pc [ptr cb] 106::arr (some ⟨sl,0,none⟩) 2 2 3 i64c [26,27]::intB bb bx::intB ob op::ck cb mb m) (fun s=>m.us.length-s.1) (0,0)
   rotate_left
   exact sb;exact tks;intro s hs K3 hK3;(refine Jn ?_)
   rotate_left
   ·exact⟨Nat.zero_le _,rfl⟩
   obtain⟨k,n⟩:=s;obtain⟨hk,hn⟩:=hs;simp only at hk hn hK3⊢;have hnk:=Ver.usersTo_le m.mdl op bx k
   by_cases hkl:k<m.us.length
   ·have hro:Ver.Once m.us.length (Ver.reach m.mdl k):=Ver.reachRun_once hf.calls _ _ _ (Ver.Once.one hkl);have hrl:=hro.len;have hfn:∀x∈Ver.reach m.mdl k,Fn Tryz.prog 70 (#[.int .i64 x] ++[ptr pc,ptr ob,ptr bb].toArray) [md m] (oc pc ob bb cb mb op bx m) (σ:=Unit) (fun _=>True) (fun _=> .bool ((m.us.getD x.toNat default).u.code.any fun i=>decide (i.op=op)&&decide (i.a=bx))) (fun _=>oc pc ob bb cb mb op bx m):=fun x hx=>by
     obtain⟨h1,h2⟩:=hro.ok x hx;obtain⟨y,rfl⟩:=JI h1;exact owned1_is pc ob bb cb mb op bx m y (by omega) hsm
    have hus:Ver.uses m.mdl op bx k=(Ver.reach m.mdl k).any fun x=>(m.us.getD x.toNat default).u.code.any fun i=>decide (i.op=op)&&decide (i.a=bx):=by
     unfold Ver.uses;simp only[getD_u]
    have hsu:=Ver.usersTo_succ m.mdl op bx k;rw[ML.unit_at,hus]at hsu
    repeat' (first|(refine JQ (reach_is cb mb m hf k hkl) ?_;intro s hs;(refine Jn ?_))|(refine Jc ?_;refine OpT.call0_ (spec:=containsFuncI_is _ _ _ (Ver.reach m.mdl k) rfl (by omega) _ [ptr pc,ptr ob,ptr bb] (md m) md_excl (oc pc ob bb cb mb op bx m) (by simp[blk_excl]) (fun x=>(m.us.getD x.toNat default).u.code.any fun i=>decide (i.op=op)&&decide (i.a=bx)) (by kernel_rfl) hfn) (k:=?_);intro s hs;(refine Jn ?_))|refine Jo ?_|(refine JB ?_;intro b)|(refine JA ?_;intro ao cap)|refine goQ (k:=fun h=>?_) (k':=fun h=>?_)|fail)
    ·rw[if_pos (by rw[JX,JV];exact⟨by assumption,h⟩)]at hsu;refine End.round0_ hK3 (k+1,n+1) ?_ ?_
     ·exact⟨by simp only;omega,by simp only;omega⟩
     ·simp only;omega
    ·rw[if_neg (by rw[JX];intro h';rw[h'.2]at h;cases h)]at hsu;refine End.round0_ hK3 (k+1,n) ?_ ?_
     ·exact⟨by simp only;omega,by simp only;omega⟩
     ·simp only;omega
    ·rw[if_neg (by rw[JX,JV];intro h';exact h h'.1)]at hsu;refine End.round0_ hK3 (k+1,n) ?_ ?_
     ·exact⟨by simp only;omega,by simp only;omega⟩
     ·simp only;omega
   ·have hkN:k=m.us.length:=by omega
    subst hkN;have hnu2:n=Ver.users m.mdl op bx:=by
     rw[hn];unfold Ver.users Ver.usersTo;rw[hnu]
    repeat' (first|refine Jo ?_|(refine JB ?_;intro b)|(refine JA ?_;intro ao cap)|refine goQ (k:=fun h=>?_) (k':=fun h=>?_)|fail)
    ·have hWx:W=⟨8,0,bx⟩:=by
      rw[hWb];refine Ver.owned_1 ?_;rcases hop with⟨rfl, -⟩|⟨rfl, -⟩
      ·exact .inl (by omega)
      ·exact .inr (by omega)
     (refine End.doneC1_ (()) (he:=by exact where_eq hWx) (hp:=?_));trivial
    ·refine End.round0_ hK2 (j+1) ?_ ?_
     ·rcases hop with⟨rfl,rfl⟩|⟨rfl,rfl⟩
      ·exact⟨by omega,fun _=>by omega,fun h=>by omega⟩
      ·exact⟨by omega,fun _=>hj0 (by omega),fun _=>by omega⟩
     ·omega
  ·have hj2':j=2:=by omega
   rw[Ver.owned_2 (fun h=>h.elim (hj0 (by omega)) (hj1 (by omega)))]at hWb
   repeat(refine Jy ?_;try first|intro ao cap|intro b)
   refine End.round0_ hK1 (bx+1) ?_ ?_
   ·exact⟨by omega,hWb⟩
   ·omega
 ·rw[show m.bx.length-bx=0 by omega]at hWb
  repeat(refine Jy ?_;try first|intro ao cap|intro b)
  (refine End.doneC1_ (()) (he:=by exact where_eq hWb) (hp:=?_));trivial
end
section
attribute [local irreducible] Run Cod End OpT Still RunQ RunS RunT Fn PutOk
theorem formed{m:ML}(h:Ver.FormOk m.mdl):Formed m:=by
 have hu:∀k,k<m.us.length→(m.us.getD k default).u∈m.mdl.units:=fun k hk=>List.mem_map.2 ⟨_,ML.uat_mem hk,rfl⟩
 exact⟨h.nboxes,by simpa using h.nunits,fun k hk=>(h.units _ (hu k hk)).1,fun k hk=>(h.units _ (hu k hk)).2⟩
theorem Cod.only{P:Program}{Q:Exit→Act→World→Prop}{N:Nat}{E:Env}{c:Code}{L F:List Chunk}(cs:List Chunk)(t:Takes cs L F)(h:Cod P Q N c E cs):Cod P Q N c E L:=
 Cod.imp (fun w hm=>(hm.takes t).left) h
theorem verify_is(m:ML)(hwf:m.Wf):Fn Tryz.prog 26 #[m.val] [md m] [] (σ:=Unit) (fun _=>True) (fun _=>whereV (Ver.verify m.mdl)) (fun _=>[]):=by
 obtain⟨W,hW⟩:∃W,W=Ver.verify m.mdl:=⟨_,rfl⟩;rw[←hW];have hnu:m.mdl.units.length=m.us.length:=by simp
 refine JE [m.val] Tryz.func26 Tryz.ntmps26 fun w S=>?_
 (refine Jn ?_);apply Cod.fact m.Small (fun w hm=>(md_holds.1 (hm.has tk)).small);intro hsm;have hs2:=hsm.us
 repeat(refine Jy ?_;try first|intro ao cap|intro b)
 obtain⟨cb,rfl⟩:∃x,x=b:=⟨_,rfl⟩;obtain⟨wb,rfl⟩:∃x,x=b:=⟨_,rfl⟩;obtain⟨mb,rfl⟩:∃x,x=b:=⟨_,rfl⟩;(refine JQ (form_is cb mb m hwf) ?_;intro s hs;(refine Jn ?_))
 by_cases hf:(Ver.form m.mdl).err=0
 ·have hF:=formed (Ver.form_ok.1 hf)
  repeat(refine Jy ?_;try first|intro ao cap|intro b)
  refine Cod.only ((fun _=>old w S::md m::blk wb [.int .i64 0, .int .i64 0, .int .i64 0] 87::ck cb mb m) 0) (tks) ?_;apply Cod.loop (σ:=Nat) (fun k=>k≤m.us.length∧Ver.codes m.mdl 0 m.mdl.units.length=Ver.codes m.mdl k (m.us.length-k)) (fun k=>[(1,ptr mb),(2,ptr wb),(3,ptr cb),(17, .int .i64 (m.us.length:Int)),(18, .int .i64 (k:Int))]) (fun _=>old w S::md m::blk wb [.int .i64 0, .int .i64 0, .int .i64 0] 87::ck cb mb m) (fun k=>m.us.length-k) 0
  rotate_left
  exact sb;exact tks;intro k hs K1 hK1;(refine Jn ?_)
  rotate_left
  ·exact⟨Nat.zero_le _,by simp⟩
  obtain⟨hk,hc⟩:=hs
  by_cases hkl:k<m.us.length
  ·rw[show m.us.length-k=(m.us.length-(k+1))+1 by omega]at hc
   repeat(refine Jy ?_;try first|intro ao cap|intro b)
   (refine JQ (code_is cb mb m k hkl hF hwf) ?_;intro s hs;(refine Jn ?_))
   by_cases he:(Ver.code m.mdl k).err=0
   ·rw[Ver.codes_2 he]at hc
    repeat(refine Jy ?_;try first|intro ao cap|intro b)
    refine End.round0_ hK1 (k+1) ?_ ?_
    ·exact⟨by omega,hc⟩
    ·omega
   ·rw[Ver.codes_1 he]at hc;have hWx:W=Ver.code m.mdl k:=by
     rw[hW,Ver.verify_2 hf (by rw[hc];exact he),hc]
    repeat(refine Jy ?_;try first|intro ao cap|intro b)
    (refine End.doneC1_ (()) (he:=by exact where_eq hWx) (hp:=?_));trivial
  ·have hWx:W=Ver.owned m.mdl 0 m.bx.length:=by
    rw[hW,Ver.verify_3 hf (by rw[hc,show m.us.length-k=0 by omega];rfl)]
   repeat(refine Jy ?_;try first|intro ao cap|intro b)
   (refine JQ (owned_is cb mb m hF) ?_;intro s hs;(refine Jn ?_))
   repeat(refine Jy ?_;try first|intro ao cap|intro b)
   (refine End.doneC1_ (()) (he:=by exact where_eq hWx) (hp:=?_));trivial
 ·have hWx:W=Ver.form m.mdl:=by rw[hW,Ver.verify_1 hf]
  repeat(refine Jy ?_;try first|intro ao cap|intro b)
  (refine End.doneC1_ (()) (he:=by exact where_eq hWx) (hp:=?_));trivial
end
section
attribute [local irreducible] Run Cod End OpT Still RunQ RunS RunT Fn PutOk
variable{E:EnvR}
theorem snoc_len{α:Type}(l:List α)(a:α):l.length+1=(l ++[a]).length:=by simp
theorem note_is(tb:Nat)(m:ML)(z:RT E)(hl:z.log.length≤2000000)(a bx v:Int):Fn Tryz.prog 58 #[ptr tb, .int .i64 a, .int .i64 bx, .int .i64 v] [] [rkM tb m z,rlM z] (σ:=Option Addr×Nat) (fun _=>True) (fun _=> .tuple #[]) (fun s=>[rkM tb m (z.noted (a,bx,v) s),rlM (z.noted (a,bx,v) s)]):=by
 refine JE [ptr tb, .int .i64 a, .int .i64 bx, .int .i64 v] Tryz.func58 Tryz.ntmps58 fun w S=>?_
 (refine Jn ?_)
 repeat(refine Jy ?_;try first|intro ao cap|intro b)
 (apply Run.op;exact rfl;refine OpT.append1_ (a:=((a,bx,v):Vm.Ev)) (k:=?_);intro ao cap);rw[snoc_len]
 repeat(refine Jy ?_;try first|intro ao cap|intro b)
 (refine End.done0'_ ((ao,cap)) (hp:=?_));trivial
theorem fall_is(tb:Nat)(m:ML)(z:RT E)(hl:z.log.length≤2000000)(n:Int):Fn Tryz.prog 59 #[ptr tb, .int .i64 n] [] (RM tb m z) (σ:=RT E) (FellR n z) (fun _=> .tuple #[]) (fun z'=>RM tb m z'):=by
 refine JE [ptr tb, .int .i64 n] Tryz.func59 Tryz.ntmps59 fun w S=>?_
 (refine Jn ?_)
 by_cases h5:z.st=5
 ·repeat(refine Jy ?_;try first|intro ao cap|intro b)
  (refine End.done0_ (z) (hp:=?_));exact .inl ⟨h5,rfl⟩
 ·repeat(refine Jy ?_;try first|intro ao cap|intro b)
  (refine JQ (note_is tb m {z with st:=5,tr:=n} hl 5 0 n) ?_;intro s hs;(refine Jn ?_))
  repeat(refine Jy ?_;try first|intro ao cap|intro b)
  (refine End.done0'_ ((RT.noted {z with st:=5,tr:=n} (5,0,n) s)) (hp:=?_));exact .inr ⟨h5,s,rfl⟩
theorem yes9_is(b:Bool):Fn Tryz.prog 60 #[.bool b] [] [] (σ:=Unit) (fun _=>True) (fun _=> .int .i64 (Opt.yes b)) (fun _=>[]):=by
 refine JE [.bool b] Tryz.func60 Tryz.ntmps60 fun w S=>?_
 (refine Jn ?_)
 cases b
 all_goals (repeat(refine Jy ?_;try first|intro ao cap|intro b))
 all_goals ((refine End.done1_ (()) (he:=Jv) (hp:=?_)))
 all_goals trivial
theorem arr_le{α:Type}{iα:Inhabited α}{w:World}{L L':List Chunk}{ao:Option Addr}{n cap:Nat}{e:TypeId}{f:α→List Value}{ef:Enc f}{l:List α}(h:Mem w L)(t:Take (arr ao n cap e f l) L L'):n≤cap:=(arr_holds.1 (h.has t)).1.le
theorem Put.rcW{c:RC}(wo:Option Addr)(wc:Nat)(ws:List Int):Put (rcC c) 3 [.slice wo ws.length wc] (rcC {c with wo:=wo,wc:=wc,ws:=ws}):=by(repeat(first|exact Put.done|apply Put.take|apply Put.skip))
theorem put9_is(tb:Nat)(m:ML)(z:RT E)(hz:z.Wf)(hl:z.log.length≤2000000)(hw:z.cur.ws.length≤1000000)(v:Int):Fn Tryz.prog 56 #[ptr tb, .int .i64 v] [] (RM tb m z) (σ:=RT E) (PutR v z) (fun _=> .tuple #[]) (fun z'=>RM tb m z'):=by
 have hn:=hz.now;have hg:=hz.curGet;refine JE [ptr tb, .int .i64 v] Tryz.func56 Tryz.ntmps56 fun w S=>?_
 (refine Jn ?_);apply Cod.fact (z.cur.ws.length≤z.cur.wc) (fun w hm=>arr_le hm (show Take (rwM z.cur) _ _ from tk));intro hcap
 repeat(refine Jy ?_;try first|intro ao cap|intro b)
 rw[hg]
 by_cases h4:400≤z.cur.ws.length
 ·repeat(refine Jy ?_;try first|intro ao cap|intro b)
  (refine JQ (fall_is tb m z hl 4) ?_;intro s hs;(refine Jn ?_));obtain⟨z',rfl⟩:∃x,x=s:=⟨_,rfl⟩;have hp:PutR v z z':= .inl ⟨h4,hs⟩;rcases hs with⟨h5,rfl⟩|⟨h5,q,rfl⟩
  ·repeat(refine Jy ?_;try first|intro ao cap|intro b)
   (refine End.done0_ (z') (hp:=?_));exact hp
  ·repeat(refine Jy ?_;try first|intro ao cap|intro b)
   (refine End.done0_ ((RT.noted {z with st:=5,tr:=4} (5,0,4) q)) (hp:=?_));exact hp
 ·repeat(refine Jy ?_;try first|intro ao cap|intro b)
  apply Cod.draw 21 ([rtM z]) (by kernel_rfl) 22 rfl;refine JR 0 ?_;refine JR 1 ?_;refine JR 2 ?_;refine JR 3 ?_;refine JR 4 ?_;refine JR 5 ?_;refine JR 6 ?_;refine JR 7 ?_;refine JR 8 ?_;refine JR 9 ?_;refine JR 10 ?_;refine JR 11 ?_;refine JR 12 ?_;refine JR 13 ?_;refine JR 14 ?_;rw[hg];refine RunT.takeR_ 15 (hy:=by exact Still.cut3 (α:=Int) (iα:=inferInstance) (f:=i64c) rfl rfl rfl rfl rfl hcap rfl) (h:=?_);refine JR 16 ?_;(refine JT 17 ?_;(first|refine Jw ?_|(refine Jb ?_;intro b)|(refine Ja ?_;intro ao cap));refine JG ?_);refine RunT.imp (fun w hm=>hm.cut3 (show Take (rwM z.cur) _ _ from tk)) ?_;(refine JT 18 ?_;refine OpT.append1_ (a:=v) (k:=?_);intro ao cap;refine JG ?_;(refine Jn ?_));refine JR 19 ?_;refine JR 20 ?_;rw[snoc_len];(refine JT 21 ?_;refine OpT.storeE_ (f:=rcC) (l:=z.all) (i:=z.now) (off:=3) (vs:=[.slice ao (z.cur.ws ++[v]).length cap]) (a':=({z.cur with wo:=ao,wc:=cap,ws:=z.cur.ws ++[v]}:RC)) (hp:=by rw[hg];exact Put.rcW _ _ _) (k:=?_);refine JG ?_);(apply RunT.done;kernel_rfl);rw[←RT.all_cur]
  repeat(refine Jy ?_;try first|intro ao cap|intro b)
  (refine End.done0'_ ((z.setW ao cap (z.cur.ws ++[v]))) (hp:=?_));exact .inr ⟨by omega,ao,cap,rfl⟩
theorem take9_is(tb:Nat)(m:ML)(z:RT E)(hz:z.Wf)(n:Nat)(hn:n≤z.cur.ws.length)(hw:z.cur.ws.length≤1000000):Fn Tryz.prog 57 #[ptr tb, .int .i64 (n:Int)] [] (RM tb m z) (σ:=(Option Addr×Nat)×Option Addr×Nat) (fun _=>True) (fun s=> .slice s.2.1 n s.2.2) (fun s=>arr s.2.1 n s.2.2 2 i64c (z.cur.ws.drop (z.cur.ws.length-n))::RM tb m (z.took n s.1)):=by
 have hnow:=hz.now;have hg:=hz.curGet;refine JE [ptr tb, .int .i64 (n:Int)] Tryz.func57 Tryz.ntmps57 fun w S=>?_
 (refine Jn ?_);have w1:IntKind.i64.wrap ((z.cur.ws.length:Int)-(n:Int))=((z.cur.ws.length-n:Nat):Int):=by rw[wrap_i64_in (by omega)];omega
 repeat(refine Jy ?_;try first|intro ao cap|intro b)
 rw[hg,w1];(apply Run.op;exact rfl;refine OpT.cutV_ (f:=i64c) (l:=z.cur.ws) (k:=?_);intro xo xc hcut);obtain⟨nb,rfl⟩:∃x,x=b:=⟨_,rfl⟩;apply Run.imp (fun w hm=>hm.toArr (b:=nb) (tk) ([]:List Int) (f:=i64c) rfl rfl (by unfold maxLen;simp))
 repeat(refine Jy ?_;try first|intro ao cap|intro b)
 (apply Run.op;exact rfl;refine OpT.appendS_ (hr:=hcut _ (by exact Jr)) (k:=?_);intro lo lc)
 repeat(refine Jy ?_;try first|intro ao cap|intro b)
 rw[hg];(apply Run.op;exact rfl;refine OpT.cutA0_ (f:=i64c) (l:=z.cur.ws) (k:=?_);intro wo wc);have e1:(z.cur.ws.take (z.cur.ws.length-n)).length=z.cur.ws.length-n:=by simp
 have hA:arr wo (z.cur.ws.length-n) wc 2 i64c (z.cur.ws.take (z.cur.ws.length-n))=arr wo (z.cur.ws.take (z.cur.ws.length-n)).length wc 2 i64c (z.cur.ws.take (z.cur.ws.length-n)):=by rw[e1]
 have hP:=Put.rcW (c:=z.cur) wo wc (z.cur.ws.take (z.cur.ws.length-n));rw[e1]at hP
 repeat(refine Jy ?_;try first|intro ao cap|intro b)
 (apply Run.op;exact rfl;refine OpT.storeE_ (f:=rcC) (l:=z.all) (i:=z.now) (off:=3) (vs:=[.slice wo (z.cur.ws.length-n) wc]) (a':=({z.cur with wo:=wo,wc:=wc,ws:=z.cur.ws.take (z.cur.ws.length-n)}:RC)) (hp:=by rw[hg];exact hP) (k:=?_));rw[←RT.all_cur,hA,Jk,List.take_length,show 0+(z.cur.ws.length-(z.cur.ws.length-n))=n by omega]
 repeat(refine Jy ?_;try first|intro ao cap|intro b)
 (refine End.done1_ (((wo,wc),lo,lc)) (he:=Jv) (hp:=?_));trivial
end
attribute [local irreducible] Run Cod End OpT Still RunQ RunS RunT Fn PutOk
variable{E:EnvR}
theorem begin_ws(M:ImgM.Mdl)(u:Nat)(a:List Int)(h:a.length≤(Vm.unt M u).locals.length):(Vm.begin M u a).ws=a ++List.replicate ((Vm.unt M u).locals.length-a.length) 0:=by
 unfold Vm.begin;refine List.ext_getElem (by simp;omega) fun i h1 h2=>?_
 simp only[List.getElem_map,List.getElem_range]
 by_cases hi:i<a.length
 ·rw[List.getElem_append_left hi,Jd,Je hi];rfl
 ·rw[List.getElem_append_right (by omega),List.getElem_replicate,Jd,List.getElem?_eq_none (by omega)];rfl
abbrev frshR(u:Nat)(fb:Nat)(wo:Option Addr)(wc:Nat)(ws:List Int):RC:=⟨0,0,some ⟨fb,0,none⟩,1,[⟨u,0,0⟩],wo,wc,ws⟩
theorem thread_is(tb:Nat)(m:ML)(z:RT E)(u:Nat)(hu:u<m.us.length)(hl:(m.us.getD u default).u.locals.length≤1000)(ao:Option Addr)(n cap:Nat)(a:List Int)(ha:a.length=n)(hn:n≤(m.us.getD u default).u.locals.length):
  Fn Tryz.prog 54 #[ptr tb, .int .i64 (u:Int), .slice ao n cap] [md m,rd ao n cap i64c a] [rkM tb m z] (σ:=Nat×Option Addr×Nat) (fun _=>True) (fun s=> .agg (rcC (frshR u s.1 s.2.1 s.2.2 (Vm.begin m.mdl u a).ws)).toArray) (fun s=>[rkM tb m z,rfM (frshR u s.1 s.2.1 s.2.2 (Vm.begin m.mdl u a).ws),rwM (frshR u s.1 s.2.1 s.2.2 (Vm.begin m.mdl u a).ws)]):=by
 rw[begin_ws m.mdl u a (by rw[unt_us];omega),unt_us];generalize hL:(m.us.getD u default).u.locals.length=N at *;refine JE [ptr tb, .int .i64 (u:Int), .slice ao n cap] Tryz.func54 Tryz.ntmps54 fun w S=>?_
 (refine Jn ?_)
 repeat(refine Jy ?_;try first|intro ao cap|intro b)
 obtain⟨nb,rfl⟩:∃x,x=b:=⟨_,rfl⟩;obtain⟨rb,rfl⟩:∃x,x=b:=⟨_,rfl⟩;apply Run.imp (fun w hm=>hm.toArr (b:=nb) (tk) ([]:List Int) (f:=i64c) rfl rfl (by unfold maxLen;simp));(apply Run.op;exact rfl;refine OpT.appendS_ (l2:=a) (k:=?_);intro wo wc);rw[Jk,Nat.zero_add];have e0:a=a ++List.replicate 0 0:=by simp
 have hA:arr wo n wc 2 i64c a=arr wo (n+0) wc 2 i64c (a ++List.replicate 0 0):=by rw[←e0,Nat.add_zero]
 repeat(refine Jy ?_;try first|intro ao cap|intro b)
 rw[hA];refine Cod.only ((fun k:Nat×Option Addr×Nat=>[old w S,md m,rkM tb m z,blk rb [.int .i64 0, .int .i64 0, .slice none 0 0, .slice none 0 0] 140,arr k.2.1 (n+k.1) k.2.2 2 i64c (a ++List.replicate k.1 0)]) (0,wo,wc)) (tks) ?_;apply Cod.loop (σ:=Nat×Option Addr×Nat) (fun k=>n+k.1≤N) (fun k=>[(0,ptr tb),(1, .int .i64 (u:Int)),(6,ptr rb),(7, .slice k.2.1 (n+k.1) k.2.2)]) (fun k:Nat×Option Addr×Nat=>[old w S,md m,rkM tb m z,blk rb [.int .i64 0, .int .i64 0, .slice none 0 0, .slice none 0 0] 140,arr k.2.1 (n+k.1) k.2.2 2 i64c (a ++List.replicate k.1 0)]) (fun k=>N-k.1) (0,wo,wc)
 rotate_left
 exact sb;exact tks;intro k hk K1 hK1;(refine Jn ?_)
 rotate_left
 ·exact hn
 obtain⟨k,wo1,wc1⟩:=k;simp only at hk hK1⊢
 by_cases hkN:n+k<N
 ·repeat(refine Jy ?_;try first|intro ao cap|intro b)
  have e1:a ++List.replicate k 0 ++[0]=a ++List.replicate (k+1) (0:Int):=by rw[List.replicate_succ',Jt]
  rw[e1];refine End.round0_ hK1 (k+1,ao,cap) ?_ ?_
  ·simp only;omega
  ·simp only;omega
 ·obtain rfl:N=n+k:=by omega
  subst ha;rw[show a.length+k-a.length=k by omega];have e2:a.length+k=(a ++List.replicate k (0:Int)).length:=by simp
  rw[e2]
  repeat(refine Jy ?_;try first|intro ao cap|intro b)
  apply End.imp (fun w hm=>Mem.toArr (iα:=inferInstance) (ef:=inferInstance) (b:=b) (f:=rfC) (n:=1) hm (tk) [(⟨u,0,0⟩:Vm.Fr)] rfl rfl (by unfold maxLen;simp));(refine End.doneC1_ ((b,wo1,wc1)) (he:=Jv) (hp:=?_));trivial
theorem at9_is(tb:Nat)(m:ML)(z:RT E)(hz:z.Wf)(hs:Vm.StandT m.mdl z.tk):Fn Tryz.prog 55 #[ptr tb] [md m] (RM tb m z) (σ:=Unit) (fun _=>True) (fun _=>insV (insR m z)) (fun _=>RM tb m z):=by
 have hn:=hz.now;have hg:=hz.curGet;have h1:=hs.fr;have h2:=hs.fr40;have h3:=hs.unit;have h4:=hs.pc;have h5:=hs.pc4;rw[hz.frs]at h1 h2;rw[hz.topF]at h3 h4 h5;rw[unt_us]at h4;have hul:m.mdl.units.length=m.us.length:=Jf _;rw[hul]at h3;have hl:0<z.cur.fr.length:=JP.2 h1;have w1:IntKind.i64.wrap ((z.cur.fr.length:Int)-1)=((z.cur.fr.length-1:Nat):Int):=by rw[wrap_i64_in (by omega)];omega
 refine JE [ptr tb] Tryz.func55 Tryz.ntmps55 fun w S=>?_
 (refine Jn ?_)
 repeat(refine Jy ?_;try first|intro ao cap|intro b)
 apply Cod.draw 11 ([rkM tb m z,rtM z]) (by kernel_rfl) 12 rfl;refine JR 0 ?_;refine JR 1 ?_;refine JR 2 ?_;refine JR 3 ?_;refine JR 4 ?_;refine JR 5 ?_;refine JR 6 ?_;refine JR 7 ?_;refine JR 8 ?_;refine JR 9 ?_;rw[hg];(refine JT 10 ?_;(first|refine Jw ?_|(refine Jb ?_;intro b)|(refine Ja ?_;intro ao cap));refine JG ?_);(refine JT 11 ?_;(first|refine Jw ?_|(refine Jb ?_;intro b)|(refine Ja ?_;intro ao cap));refine JG ?_);(apply RunT.done;kernel_rfl)
 repeat(refine Jy ?_;try first|intro ao cap|intro b)
 (refine End.doneC1_ (()) (he:=Jv) (hp:=?_));trivial
end Go.Proofs.YtjehflelkpacfaaGreat.Vw
