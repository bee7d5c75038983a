/- With shorter code a unit has a typing still. Plain Lean. -/
import Derived.Test.YtgnhfinabhimpaaM09
set_option linter.unusedVariables false
set_option linter.unusedSimpArgs false
set_option linter.unusedSectionVars false
set_option maxRecDepth 100000
namespace Go.Proofs.Ytgnhfinabhimpaa.Opt
open ImgM Ver
def withC(u:Unt)(c:List Ins):Unt:={u with code:=c}
theorem step_code(M:Mdl)(u:Unt)(c:List Ins)(i:Ins)(f:Flow)(h21:i.op≠21)(h22:i.op≠22):Ver.step M (withC u c) i f=Ver.step M u i f:=by
 unfold Ver.step;rw[if_neg h21,if_neg h22,if_neg h21,if_neg h22];rfl
theorem sem_code(M:Mdl)(u:Unt)(c:List Ins)(i:Ins)(s:Shape):sem M (withC u c) i s=sem M u i s:=by
 unfold sem core
 by_cases h21:i.op=21
 ·rw[if_pos h21,if_pos h21]
 rw[if_neg h21,if_neg h21]
 by_cases h22:i.op=22
 ·rw[if_pos h22,if_pos h22]
 rw[if_neg h22,if_neg h22,step_code M u c i _ h21 h22]
theorem sem_reloc(M:Mdl)(u:Unt)(wh:List Int)(i:Ins)(s:Shape):sem M u (reloc wh i) s=sem M u i s:=by
 unfold reloc
 split
 ·rename_i h
  unfold isJ at h;rw[Bool.or_eq_true,decide_eq_true_eq,decide_eq_true_eq]at h;unfold sem core;rcases h with h|h<;>simp only[h,if_true]<;>rfl
 ·rfl
theorem reloc_op(wh:List Int)(i:Ins):(reloc wh i).op=i.op:=by unfold reloc;split<;>rfl
theorem reloc_no{wh:List Int}{i:Ins}(h:isJ i=false):reloc wh i=i:=by unfold reloc;rw[if_neg (by rw[h];decide)]
theorem reloc_a{wh:List Int}{i:Ins}(h:isJ i=true):(reloc wh i).a=wh.getD i.a.toNat 0:=by unfold reloc;rw[if_pos h]
theorem isJ_iff{i:Ins}:isJ i=true↔i.op=21∨i.op=22:=by unfold isJ;rw[Bool.or_eq_true,decide_eq_true_eq,decide_eq_true_eq]
theorem isC_iff{i:Ins}:isC i=true↔i.op=1∨i.op=2:=by unfold isC;rw[Bool.or_eq_true,decide_eq_true_eq,decide_eq_true_eq]
theorem push_stack(t:Int)(f:Flow):(push t f).stack=f.stack ++[t]∧(push t f).has=f.has:=by
 unfold push fail
 split
 ·split<;>exact⟨rfl,rfl⟩
 ·exact⟨rfl,rfl⟩
theorem fail_stack(e:Int)(f:Flow):(fail e f).stack=f.stack∧(fail e f).has=f.has:=by unfold fail;split<;>exact⟨rfl,rfl⟩
theorem pop_stack(f:Flow):(pop f).2.stack=f.stack.take (f.stack.length-1)∧(pop f).2.has=f.has:=by
 unfold pop
 split
 ·rename_i h
  have:f.stack=[]:=List.eq_nil_of_length_eq_zero h;rw[(fail_stack _ _).1,(fail_stack _ _).2,this];exact⟨rfl,rfl⟩
 ·exact⟨rfl,rfl⟩
theorem want1_stack(t:Int)(f:Flow):(want1 t f).stack=f.stack.take (f.stack.length-1)∧(want1 t f).has=f.has:=by
 unfold want1
 split
 ·rw[(fail_stack _ _).1,(fail_stack _ _).2];exact pop_stack f
 ·exact pop_stack f
theorem take_snoc1{α:Type}(st:List α)(x:α):(st ++[x]).take ((st ++[x]).length-1)=st:=by simp
section
variable{M:Mdl}{u:Unt}{i:Ins}{st:List Int}{h:List Bool}
theorem step1(hi:i.op=1∨i.op=2)(f:Flow):Ver.step M u i f=(true,push i.op f):=by
 unfold Ver.step;rcases hi with hi|hi
 ·rw[if_pos hi,hi]
 ·rw[if_neg (by omega),if_pos hi,hi]
theorem sem_const(hi:i.op=1∨i.op=2):sem M u i (st,h)=push i.op ⟨[],[],st,h,0⟩:=by
 unfold sem core;rw[if_neg (by omega),if_neg (by omega),step1 hi]
theorem push_err{t:Int}:(push t ⟨[],[],st,h,0⟩).err=0↔st.length+1≤300:=by
 unfold push;simp only
 split
 ·rename_i h'
  unfold fail;simp only[if_true];constructor
  ·intro h;cases h
  ·intro h;omega
 ·rename_i h'
  exact⟨fun _=>by omega,fun _=>rfl⟩
theorem sem_two{x y:Int}(hi:8≤i.op∧i.op≤20):(sem M u i (st ++[x] ++[y],h)).stack=st ++[if 12<i.op then 2 else 1]∧(sem M u i (st ++[x] ++[y],h)).has=h:=by
 unfold sem core;rw[if_neg (by omega),if_neg (by omega)];have e:∀(a b c:Int),(want1 a (want1 b (⟨[],[],st ++[x] ++[y],h,0⟩:Flow))).stack=st∧(want1 a (want1 b (⟨[],[],st ++[x] ++[y],h,0⟩:Flow))).has=h:=by
  intro a b c;rw[(want1_stack _ _).1,(want1_stack _ _).2,(want1_stack _ _).1,(want1_stack _ _).2];simp only;rw[take_snoc1,take_snoc1];simp
 unfold Ver.step;rw[if_neg (by omega),if_neg (by omega),if_neg (by omega),if_neg (by omega),if_neg (by omega),if_neg (by omega),if_neg (by omega)]
 by_cases h1:8≤i.op∧i.op≤12
 ·rw[if_pos h1,if_neg (by omega)];have:=e 1 1 0;rw[(push_stack _ _).1,(push_stack _ _).2];exact⟨by rw[show want [1,1] (⟨[],[],st ++[x] ++[y],h,0⟩:Flow)=want1 1 (want1 1 (⟨[],[],st ++[x] ++[y],h,0⟩:Flow))from rfl,this.1],this.2⟩
 rw[if_neg h1];rw[if_pos (show 12<i.op by omega)]
 by_cases h2:i.op=13∨i.op=14
 ·rw[if_pos h2];simp only[(push_stack _ _).1,(push_stack _ _).2,show∀(t:Int) (f:Flow),want [t] f=want1 t f from fun _ _=>rfl,(want1_stack _ _).1,(want1_stack _ _).2];have p:=pop_stack (⟨[],[],st ++[x] ++[y],h,0⟩:Flow);simp only at p;rw[take_snoc1]at p
  split
  ·rw[(fail_stack _ _).1,(fail_stack _ _).2,p.1,take_snoc1];exact⟨rfl,p.2⟩
  ·rw[p.1,take_snoc1];exact⟨rfl,p.2⟩
 rw[if_neg h2]
 by_cases h3:15≤i.op∧i.op≤18
 ·rw[if_pos h3];have:=e 1 1 0;rw[(push_stack _ _).1,(push_stack _ _).2];exact⟨by rw[show want [1,1] (⟨[],[],st ++[x] ++[y],h,0⟩:Flow)=want1 1 (want1 1 (⟨[],[],st ++[x] ++[y],h,0⟩:Flow))from rfl,this.1],this.2⟩
 rw[if_neg h3,if_pos (by omega)];have:=e 2 2 0;rw[(push_stack _ _).1,(push_stack _ _).2];exact⟨by rw[show want [2,2] (⟨[],[],st ++[x] ++[y],h,0⟩:Flow)=want1 2 (want1 2 (⟨[],[],st ++[x] ++[y],h,0⟩:Flow))from rfl,this.1],this.2⟩
theorem sem_load(hi:i.op=3):(sem M u i (st,h)).stack=st ++[u.locals.getD i.a.toNat 0]∧(sem M u i (st,h)).has=h:=by
 unfold sem core;rw[if_neg (by omega),if_neg (by omega),step_3 M u i _ hi];simp only[(push_stack _ _).1,(push_stack _ _).2]
 split
 ·exact⟨rfl,rfl⟩
 ·rw[(fail_stack _ _).1,(fail_stack _ _).2];exact⟨rfl,rfl⟩
theorem sem_drop{x:Int}(hi:i.op=5):(sem M u i (st ++[x],h)).stack=st∧(sem M u i (st ++[x],h)).has=h:=by
 unfold sem core;rw[if_neg (by omega),if_neg (by omega)];unfold Ver.step;rw[if_neg (by omega),if_neg (by omega),if_neg (by omega),if_neg (by omega),if_pos hi];simp only;rw[(pop_stack _).1,(pop_stack _).2];exact⟨take_snoc1 _ _,rfl⟩
theorem sem_one{x:Int}(hi:i.op=6∨i.op=7):(sem M u i (st ++[x],h)).stack=st ++[if i.op=6 then 1 else 2]∧(sem M u i (st ++[x],h)).has=h:=by
 unfold sem core;rw[if_neg (by omega),if_neg (by omega)];unfold Ver.step;rw[if_neg (by omega),if_neg (by omega),if_neg (by omega),if_neg (by omega),if_neg (by omega)]
 by_cases h6:i.op=6
 ·rw[if_pos h6,if_pos h6,(push_stack _ _).1,(push_stack _ _).2];simp only[show∀(t:Int) (f:Flow),want [t] f=want1 t f from fun _ _=>rfl,(want1_stack _ _).1,(want1_stack _ _).2];rw[take_snoc1];exact⟨rfl,trivial⟩
 ·rw[if_neg h6,if_neg h6,if_pos (by omega),(push_stack _ _).1,(push_stack _ _).2];simp only[show∀(t:Int) (f:Flow),want [t] f=want1 t f from fun _ _=>rfl,(want1_stack _ _).1,(want1_stack _ _).2];rw[take_snoc1];exact⟨rfl,trivial⟩
theorem sem_else{x:Int}(hi:i.op=22):(sem M u i (st ++[x],h)).stack=st∧(sem M u i (st ++[x],h)).has=h:=by
 unfold sem core;rw[if_neg (by omega),if_pos hi];simp only[show∀(t:Int) (f:Flow),want [t] f=want1 t f from fun _ _=>rfl,(want1_stack _ _).1,(want1_stack _ _).2];rw[take_snoc1];exact⟨rfl,trivial⟩
theorem sem_jump(hi:i.op=21):sem M u i (st,h)=⟨[],[],st,h,0⟩:=by
 unfold sem core;rw[if_pos hi]
end
theorem nexts_on{i:Ins}{p:Int}(h1:i.op≠21)(h2:i.op≠22)(h3:i.op≠24)(h4:i.op≠25):nexts i p=[p+1]:=by
 unfold nexts;rw[if_neg h1,if_neg h2,if_neg (by omega)]
theorem ins_at(u:Unt)(p:Nat):ins u (p:Int)=at_ u.code p:=rfl
section
variable{M:Mdl}{u:Unt}{τ:Int→Option Shape}(hc:Cert M u τ)
include hc
theorem go1{p:Nat}{st:List Int}{h:List Bool}(ht:τ (p:Int)=some (st,h))(h1:(at_ u.code p).op≠21)(h3:(at_ u.code p).op≠24)(h4:(at_ u.code p).op≠25):
  (sem M u (at_ u.code p) (st,h)).err=0∧∃h',τ ((p+1:Nat):Int)=some ((sem M u (at_ u.code p) (st,h)).stack,h')∧Le h' (sem M u (at_ u.code p) (st,h)).has:=by
 have hf:=hc.fits _ _ ht;refine⟨hf.ok,?_⟩;have hn:=hf.next ((p+1:Nat):Int) (by
  rw[ins_at];unfold nexts;rw[if_neg h1]
  split
  ·simp
  ·rw[if_neg (by omega)];simp)
 exact hn
theorem piece{p:Nat}{st:List Int}{h:List Bool}(ht:τ (p:Int)=some (st,h))(hs:(shorter u.code p).2≠0):
  (em u.code p=[]∧∃h',τ (nx u.code p:Int)=some (st,h')∧Le h' h)∨
  (∃i,em u.code p=[i]∧(i.op=1∨i.op=2)∧(sem M u i (st,h)).err=0∧∃h',τ (nx u.code p:Int)=some ((sem M u i (st,h)).stack,h')∧Le h' (sem M u i (st,h)).has)∨
  (∃i,em u.code p=[i]∧i.op=21∧∃h',τ i.a=some (st,h')∧Le h' h):=by
 have e1:em u.code p=(shorter u.code p).1:=by unfold em;rw[if_neg hs]
 have e2:nx u.code p=p+(shorter u.code p).2:=by unfold nx;rw[if_neg hs]
 rw[e1,e2];rcases shorter_cases hs with⟨r,h1,h2,h3⟩|⟨r,h1,h2,h3⟩|⟨h1,h2,h3,h4⟩
 ·--three
  rw[h1];unfold three at h3
  split at h3
  ·cases h3
  rename_i g1
  split at h3
  ·cases h3
  rename_i g2
  cases h3
  have c1:isC (at_ u.code p)=true:=by
   cases hx:isC (at_ u.code p)with
   |true=>rfl
   |false=>exact absurd (.inl hx) g1
  have c2:isC (at_ u.code (p+1))=true:=by
   cases hx:isC (at_ u.code (p+1))with
   |true=>rfl
   |false=>exact absurd (.inr (.inl hx)) g1
  rw[isC_iff]at c1 c2;have c3:(at_ u.code p).op=(at_ u.code (p+1)).op:=Classical.byContradiction fun hx=>g1 (.inr (.inr (.inl hx)))
  have c4:8≤(at_ u.code (p+2)).op∧(at_ u.code (p+2)).op≤20:=by
   refine⟨?_,?_⟩
   ·exact Int.not_lt.1 fun hx=>g1 (.inr (.inr (.inr (.inl hx))))
   ·exact Int.not_lt.1 fun hx=>g1 (.inr (.inr (.inr (.inr (.inl hx)))))
  obtain⟨o1,k1,t1,l1⟩:=go1 hc ht (by omega) (by omega) (by omega);rw[sem_const c1]at o1 t1 l1;rw[(push_stack _ _).1]at t1;rw[(push_stack _ _).2]at l1;obtain⟨o2,k2,t2,l2⟩:=go1 hc t1 (by omega) (by omega) (by omega);rw[sem_const c2]at o2 t2 l2;rw[(push_stack _ _).1]at t2;rw[(push_stack _ _).2]at l2;rw[show p+1+1=p+2 from rfl]at t2;obtain⟨o3,k3,t3,l3⟩:=go1 hc t2 (by omega) (by omega) (by omega);simp only at t3 l3;rw[(sem_two c4).1]at t3;rw[(sem_two c4).2]at l3
  right;left
  rw[push_err]at o1;have l:Le k3 h:=(l3.trans l2).trans l1
  by_cases h12:12<(at_ u.code (p+2)).op
  ·rw[if_pos h12]at t3;refine⟨⟨2,two2 (at_ u.code (p+2)).op (cval (at_ u.code p)) (cval (at_ u.code (p+1))),0⟩,?_, .inr rfl,?_,k3,?_,?_⟩
   ·simp only;unfold known;rw[if_pos (by simpa using h12)]
   ·rw[sem_const (.inr rfl),push_err];exact o1
   ·rw[sem_const (.inr rfl),(push_stack _ _).1];exact t3
   ·rw[sem_const (.inr rfl),(push_stack _ _).2];exact l
  ·rw[if_neg h12]at t3;refine⟨⟨1,0,two2 (at_ u.code (p+2)).op (cval (at_ u.code p)) (cval (at_ u.code (p+1)))⟩,?_, .inl rfl,?_,k3,?_,?_⟩
   ·simp only;unfold known;rw[if_neg (by simpa using h12)]
   ·rw[sem_const (.inl rfl),push_err];exact o1
   ·rw[sem_const (.inl rfl),(push_stack _ _).1];exact t3
   ·rw[sem_const (.inl rfl),(push_stack _ _).2];exact l
 ·--two
  rw[h1];unfold pair at h3
  split at h3
  ·--dropped
   rename_i g
   cases h3
   left
   refine⟨rfl,?_⟩;have g1:((at_ u.code p).op=1∨(at_ u.code p).op=2)∨(at_ u.code p).op=3:=by
    rcases g.2 with g|g
    ·exact .inl (isC_iff.1 g)
    ·exact .inr g
   obtain⟨o1,k1,t1,l1⟩:=go1 hc ht (by omega) (by omega) (by omega);have key:∃x,(sem M u (at_ u.code p) (st,h)).stack=st ++[x]∧(sem M u (at_ u.code p) (st,h)).has=h:=by
    rcases g1 with g1|g1
    ·rw[sem_const g1,(push_stack _ _).1,(push_stack _ _).2];exact⟨_,rfl,rfl⟩
    ·exact⟨_,(sem_load g1).1,(sem_load g1).2⟩
   obtain⟨x,x1,x2⟩:=key;rw[x1]at t1;rw[x2]at l1;obtain⟨o2,k2,t2,l2⟩:=go1 hc t1 (by omega) (by omega) (by omega);rw[(sem_drop g.1).1]at t2;rw[(sem_drop g.1).2]at l2;exact⟨k2,t2,l2.trans l1⟩
  split at h3
  ·cases h3
  rename_i g0
  have c1:(at_ u.code p).op=1∨(at_ u.code p).op=2:=isC_iff.1 (by simpa using g0);obtain⟨o1,k1,t1,l1⟩:=go1 hc ht (by omega) (by omega) (by omega);rw[sem_const c1]at o1 t1 l1;rw[(push_stack _ _).1]at t1;rw[(push_stack _ _).2]at l1;rw[push_err]at o1;simp only at t1 l1
  split at h3
  ·--a number,turned
   rename_i g
   cases h3
   obtain⟨o2,k2,t2,l2⟩:=go1 hc t1 (by omega) (by omega) (by omega);rw[(sem_one (.inl g.1)).1,if_pos g.1]at t2;rw[(sem_one (.inl g.1)).2]at l2
   right;left
   refine⟨⟨1,0,IntKind.i64.wrap (-(cval (at_ u.code p)))⟩,rfl, .inl rfl,?_,k2,?_,?_⟩
   ·rw[sem_const (.inl rfl),push_err];exact o1
   ·rw[sem_const (.inl rfl),(push_stack _ _).1];exact t2
   ·rw[sem_const (.inl rfl),(push_stack _ _).2];exact l2.trans l1
  split at h3
  ·cases h3
  split at h3
  ·--a truth,turned
   rename_i g
   cases h3
   obtain⟨o2,k2,t2,l2⟩:=go1 hc t1 (by omega) (by omega) (by omega);rw[(sem_one (.inr g)).1,if_neg (by omega)]at t2;rw[(sem_one (.inr g)).2]at l2
   right;left
   refine⟨⟨2,IntKind.i64.wrap (1-cval (at_ u.code p)),0⟩,rfl, .inr rfl,?_,k2,?_,?_⟩
   ·rw[sem_const (.inr rfl),push_err];exact o1
   ·rw[sem_const (.inr rfl),(push_stack _ _).1];exact t2
   ·rw[sem_const (.inr rfl),(push_stack _ _).2];exact l2.trans l1
  split at h3
  ·--a test of what is true
   rename_i g
   cases h3
   obtain⟨o2,k2,t2,l2⟩:=go1 hc t1 (by omega) (by omega) (by omega);rw[(sem_else g.1).1]at t2;rw[(sem_else g.1).2]at l2;exact .inl ⟨rfl,k2,t2,l2.trans l1⟩
  split at h3
  ·--a test of what is false
   rename_i g
   cases h3
   have hf:=hc.fits _ _ t1;obtain⟨k2,t2,l2⟩:=hf.next (at_ u.code (p+1)).a (by
    rw[ins_at];unfold nexts;rw[if_neg (by omega),if_pos g];simp)
   rw[ins_at]at t2 l2;rw[(sem_else g).1]at t2;rw[(sem_else g).2]at l2;exact .inr (.inr ⟨_,rfl,rfl,k2,t2,l2.trans l1⟩)
  ·cases h3
 ·--a jump to what follows
  rw[h1]
  left
  refine⟨rfl,?_⟩;have hf:=hc.fits _ _ ht;obtain⟨k2,t2,l2⟩:=hf.next (at_ u.code p).a (by
   rw[ins_at];unfold nexts;rw[if_pos h3];simp)
  rw[ins_at,sem_jump h3]at t2 l2;rw[h4]at t2;exact⟨k2,t2,l2⟩
end
end Go.Proofs.Ytgnhfinabhimpaa.Opt


namespace Go.Proofs.Ytgnhfinabhimpaa.Vm
open ImgM Ver Opt
theorem fail_ne{e:Int}(he:e≠0){f:Flow}:(fail e f).err≠0:=by
 unfold Ver.fail
 split
 ·exact he
 ·assumption
theorem push_inv{t:Int}{f:Flow}(h:(Ver.push t f).err=0):f.err=0∧Ver.push t f={f with stack:=f.stack ++[t]}∧f.stack.length+1≤300:=by
 unfold Ver.push at h⊢
 split
 ·rename_i h3
  rw[if_pos h3]at h;exact absurd h (fail_ne (by decide))
 ·rename_i h3
  rw[if_neg h3]at h;exact⟨h,rfl,by omega⟩
theorem snoc_of{α:Type} [Inhabited α]{l:List α}(h:¬l.length=0):l=l.take (l.length-1) ++[l.getD (l.length-1) default]:=by
 have:l.length-1+1=l.length:=by omega
 conv=>lhs;rw[←List.take_length (l:=l),←this,List.take_succ_eq_append_getElem (show l.length-1<l.length by omega)]
 rw[List.getD_eq_getElem?_getD,List.getElem?_eq_getElem (show l.length-1<l.length by omega)];rfl
theorem pop_inv{f:Flow}(h:(pop f).2.err=0):f.err=0∧∃st t,f.stack=st ++[t]∧(pop f).1=t∧(pop f).2={f with stack:=st}:=by
 unfold pop at h⊢
 split
 ·rename_i h0
  rw[if_pos h0]at h;exact absurd h (fail_ne (by decide))
 ·rename_i h0
  rw[if_neg h0]at h;exact⟨h,_,_,snoc_of h0,rfl,rfl⟩
theorem want1_inv{t:Int}{f:Flow}(h:(want1 t f).err=0):f.err=0∧∃st,f.stack=st ++[t]∧want1 t f={f with stack:=st}:=by
 unfold want1 at h⊢
 split
 ·rename_i hn
  rw[if_pos hn]at h;exact absurd h (fail_ne (by decide))
 ·rename_i hn
  rw[if_neg hn]at h;obtain⟨h1,st,t',h2,h3,h4⟩:=pop_inv h;have:t'=t:=Classical.byContradiction fun hx=>hn (by rw[h3];exact hx)
  subst this;exact⟨h1,st,h2,h4⟩
theorem want_inv:∀(l:List Int) {f:Flow},(want l f).err=0→f.err=0∧∃st,f.stack=st ++l∧want l f={f with stack:=st}
 |[],f,h=>⟨h,f.stack,by simp,rfl⟩
 |t::r,f,h=>by
  have hh:want (t::r) f=want1 t (want r f):=rfl;rw[hh]at h⊢;obtain⟨h1,st,h2,h3⟩:=want1_inv h;obtain⟨g1,st',g2,g3⟩:=want_inv r h1;rw[g3]at h2 h3;simp only at h2;exact⟨g1,st,by rw[g2,h2];simp,by rw[g3];exact h3⟩
theorem fail_inv{e:Int}(he:e≠0){c:Prop} [Decidable c]{f:Flow}(h:(if c then fail e f else f).err=0):¬c∧f.err=0:=by
 by_cases hc:c
 ·rw[if_pos hc]at h;exact absurd h (fail_ne he)
 ·rw[if_neg hc]at h;exact⟨hc,h⟩
theorem fail_inv'{e:Int}(he:e≠0){c:Prop} [Decidable c]{f:Flow}(h:(if c then f else fail e f).err=0):c∧f.err=0:=by
 by_cases hc:c
 ·rw[if_pos hc]at h;exact⟨hc,h⟩
 ·rw[if_neg hc]at h;exact absurd h (fail_ne he)
theorem done_inv{f:Flow}(h:(done f).err=0):f.err=0∧f.stack=[]∧done f=f:=by
 unfold done at h⊢
 split
 ·rename_i h0;rw[if_pos h0]at h;exact⟨h,List.eq_nil_of_length_eq_zero h0,rfl⟩
 ·rename_i h0;rw[if_neg h0]at h;exact absurd h (fail_ne (by decide))
inductive Does(M:Mdl)(u:Unt)(i:Ins):List Int→List Bool→List Int→List Bool→Prop
 |const (st h) (hi:i.op=1∨i.op=2):Does M u i st h (st ++[i.op]) h
 |load (st h) (hi:i.op=3) (hh:h.getD i.a.toNat false=true):Does M u i st h (st ++[u.locals.getD i.a.toNat 0]) h
 |store (st h) (hi:i.op=4):Does M u i (st ++[u.locals.getD i.a.toNat 0]) h st (h.set i.a.toNat true)
 |drop (st h t) (hi:i.op=5):Does M u i (st ++[t]) h st h
 |neg (st h) (hi:i.op=6):Does M u i (st ++[1]) h (st ++[1]) h
 |not (st h) (hi:i.op=7):Does M u i (st ++[2]) h (st ++[2]) h
 |arith (st h) (hi:8≤i.op∧i.op≤12):Does M u i (st ++[1,1]) h (st ++[1]) h
 |eq (st h t) (hi:i.op=13∨i.op=14) (ht:t=1∨t=2):Does M u i (st ++[t,t]) h (st ++[2]) h
 |cmp (st h) (hi:15≤i.op∧i.op≤18):Does M u i (st ++[1,1]) h (st ++[2]) h
 |logic (st h) (hi:i.op=19∨i.op=20):Does M u i (st ++[2,2]) h (st ++[2]) h
 |jump (st h) (hi:i.op=21):Does M u i st h st h
 |els (st h) (hi:i.op=22):Does M u i (st ++[2]) h st h
 |call (st h) (hi:i.op=23):Does M u i (st ++(M.units.getD i.a.toNat default).locals.take (M.units.getD i.a.toNat default).params.toNat) h (st ++[(M.units.getD i.a.toNat default).result]) h
 |ret (h) (hi:i.op=24) (hk:u.kind=2):Does M u i [u.result] h [] h
 |end_ (h) (hi:i.op=25) (hk:u.kind≠2):Does M u i [] h [] h
 |send (st h) (hi:i.op=26):Does M u i (st ++[(M.boxes.getD i.a.toNat default).1]) h st h
 |recv (st h) (hi:i.op=27):Does M u i st h (st ++[(M.boxes.getD i.a.toNat default).1]) h
 |out (st h t) (hi:i.op=28):Does M u i (st ++[t]) h st h
 |start (st h) (hi:i.op=29):Does M u i (st ++(M.units.getD i.a.toNat default).locals.take (M.units.getD i.a.toNat default).params.toNat) h (st ++[10+i.a]) h
 |resume (st h k) (hi:i.op=30) (hk:handle M (10+k)=true):Does M u i (st ++[10+k,(M.units.getD k.toNat default).takes]) h (st ++[(M.units.getD k.toNat default).result]) h
 |yield (st h) (hi:i.op=31) (hk:u.kind=3):Does M u i (st ++[u.result]) h (st ++[u.takes]) h
 |alive (st h k) (hi:i.op=32) (hk:handle M (10+k)=true):Does M u i (st ++[10+k]) h (st ++[2]) h
theorem app2{α:Type}(s:List α)(a b:α):s ++[a] ++[b]=s ++[a,b]:=by simp
theorem gen_inv{M:Mdl}{f:Flow}(h:(gen M f).2.err=0):f.err=0∧∃st k,f.stack=st ++[10+k]∧handle M (10+k)=true∧gen M f=(some k,{f with stack:=st}):=by
 unfold gen at h⊢
 by_cases h1:(pop f).2.err≠0
 ·rw[if_pos h1]at h;exact absurd h h1
 rw[if_neg h1]at h⊢
 by_cases h2:handle M (pop f).1=false
 ·rw[if_pos h2]at h;exact absurd h (fail_ne (by decide))
 rw[if_neg h2]at h⊢;obtain⟨g1,st,t,g2,g3,g4⟩:=pop_inv h;rw[g3]at h2⊢;refine⟨g1,st,t-10,by rw[g2];congr 2;omega,?_,?_⟩
 ·rw[show(10:Int)+(t-10)=t by omega];simpa using h2
 ·rw[g4]
theorem sem_does{M:Mdl}{u:Unt}{i:Ins}{st:List Int}{h:List Bool}(ho:1≤i.op∧i.op≤32)(he:(sem M u i (st,h)).err=0):
  Does M u i st h (sem M u i (st,h)).stack (sem M u i (st,h)).has:=by
 unfold sem core at he⊢
 by_cases h21:i.op=21
 ·rw[if_pos h21];exact .jump _ _ h21
 rw[if_neg h21]at he⊢
 by_cases h22:i.op=22
 ·rw[if_pos h22]at he⊢;obtain⟨-,s,g2,g3⟩:=want_inv _ he;simp only at g2;rw[g3];subst g2;exact .els _ _ h22
 rw[if_neg h22]at he⊢;unfold Ver.step at he⊢
 by_cases h1:i.op=1
 ·rw[if_pos h1]at he⊢;obtain⟨-,g2, -⟩:=push_inv he;simp only;rw[g2];have:=Does.const (M:=M) (u:=u) (i:=i) st h (.inl h1);rw[h1]at this;exact this
 rw[if_neg h1]at he⊢
 by_cases h2:i.op=2
 ·rw[if_pos h2]at he⊢;obtain⟨-,g2, -⟩:=push_inv he;simp only;rw[g2];have:=Does.const (M:=M) (u:=u) (i:=i) st h (.inr h2);rw[h2]at this;exact this
 rw[if_neg h2]at he⊢
 by_cases h3:i.op=3
 ·rw[if_pos h3]at he⊢;obtain⟨g1,g2, -⟩:=push_inv he;obtain⟨k1,k2⟩:=fail_inv' (by decide) g1;simp only at k1⊢;rw[g2,if_pos k1];exact .load _ _ h3 k1
 rw[if_neg h3]at he⊢
 by_cases h4:i.op=4
 ·rw[if_pos h4]at he⊢;obtain⟨-,s,g2,g3⟩:=want_inv _ (show(want [u.locals.getD i.a.toNat 0] ⟨[],[],st,h,0⟩).err=0 from he);simp only at g2⊢;rw[g3];subst g2;exact .store _ _ h4
 rw[if_neg h4]at he⊢
 by_cases h5:i.op=5
 ·rw[if_pos h5]at he⊢;obtain⟨-,s,t,g2,g3,g4⟩:=pop_inv he;simp only at g2⊢;rw[g4];subst g2;exact .drop _ _ _ h5
 rw[if_neg h5]at he⊢
 by_cases h6:i.op=6
 ·rw[if_pos h6]at he⊢;obtain⟨g1,g2, -⟩:=push_inv he;obtain⟨-,s,k2,k3⟩:=want_inv _ g1;simp only at k2⊢;rw[g2,k3];subst k2;exact .neg _ _ h6
 rw[if_neg h6]at he⊢
 by_cases h7:i.op=7
 ·rw[if_pos h7]at he⊢;obtain⟨g1,g2, -⟩:=push_inv he;obtain⟨-,s,k2,k3⟩:=want_inv _ g1;simp only at k2⊢;rw[g2,k3];subst k2;exact .not _ _ h7
 rw[if_neg h7]at he⊢
 by_cases h8:8≤i.op∧i.op≤12
 ·rw[if_pos h8]at he⊢;obtain⟨g1,g2, -⟩:=push_inv he;obtain⟨-,s,k2,k3⟩:=want_inv _ g1;simp only at k2⊢;rw[g2,k3];subst k2;exact .arith _ _ h8
 rw[if_neg h8]at he⊢
 by_cases h9:i.op=13∨i.op=14
 ·rw[if_pos h9]at he⊢;obtain⟨g1,g2, -⟩:=push_inv he;obtain⟨g3,s,k2,k3⟩:=want_inv _ g1;obtain⟨q1,q2⟩:=fail_inv (by decide) g3;obtain⟨-,s',t,p2,p3,p4⟩:=pop_inv q2;rw[if_neg q1]at k2 k3 g2⊢;rw[g2,k3];rw[p4]at k2⊢;rw[p3]at q1 k2;simp only at k2 p2⊢;subst k2 p2;rw[app2];refine .eq _ _ _ h9 ?_;omega
 rw[if_neg h9]at he⊢
 by_cases h10:15≤i.op∧i.op≤18
 ·rw[if_pos h10]at he⊢;obtain⟨g1,g2, -⟩:=push_inv he;obtain⟨-,s,k2,k3⟩:=want_inv _ g1;simp only at k2⊢;rw[g2,k3];subst k2;exact .cmp _ _ h10
 rw[if_neg h10]at he⊢
 by_cases h11:i.op=19∨i.op=20
 ·rw[if_pos h11]at he⊢;obtain⟨g1,g2, -⟩:=push_inv he;obtain⟨-,s,k2,k3⟩:=want_inv _ g1;simp only at k2⊢;rw[g2,k3];subst k2;exact .logic _ _ h11
 rw[if_neg h11,if_neg h21,if_neg h22]at he⊢;unfold special at he⊢
 by_cases h23:i.op=23
 ·rw[if_pos h23]at he⊢;obtain⟨g1,g2, -⟩:=push_inv he;obtain⟨-,s,k2,k3⟩:=want_inv _ (show(want _ _).err=0 from g1);simp only at k2⊢;rw[g2];unfold args;rw[k3];subst k2;exact .call _ _ h23
 rw[if_neg h23]at he⊢
 by_cases h29:i.op=29
 ·rw[if_pos h29]at he⊢;obtain⟨g1,g2, -⟩:=push_inv he;obtain⟨-,s,k2,k3⟩:=want_inv _ (show(want _ _).err=0 from g1);simp only at k2⊢;rw[g2];unfold args;rw[k3];subst k2;exact .start _ _ h29
 rw[if_neg h29]at he⊢
 by_cases h24:i.op=24
 ·rw[if_pos h24]at he⊢;obtain⟨g1,g2,g3⟩:=done_inv he;obtain⟨k1,s,k2,k3⟩:=want_inv _ g1;obtain⟨q1,q2⟩:=fail_inv (by decide) k1;rw[if_neg q1]at k2 k3 g2;simp only at k2⊢;rw[g3,if_neg q1,k3];rw[k3]at g2;simp only at g2;subst g2 k2;exact .ret _ h24 (Classical.byContradiction q1)
 rw[if_neg h24]at he⊢
 by_cases h25:i.op=25
 ·rw[if_pos h25]at he⊢;obtain⟨g1,g2,g3⟩:=done_inv he;obtain⟨q1,q2⟩:=fail_inv (by decide) g1;rw[if_neg q1]at g2;simp only at g2⊢;rw[g3,if_neg q1];subst g2;exact .end_ _ h25 q1
 rw[if_neg h25]at he⊢
 by_cases h26:i.op=26
 ·rw[if_pos h26]at he⊢;obtain⟨-,s,g2,g3⟩:=want_inv _ he;simp only at g2⊢;rw[g3];subst g2;exact .send _ _ h26
 rw[if_neg h26]at he⊢
 by_cases h27:i.op=27
 ·rw[if_pos h27]at he⊢;obtain⟨-,g2, -⟩:=push_inv he;simp only;rw[g2];exact .recv _ _ h27
 rw[if_neg h27]at he⊢
 by_cases h28:i.op=28
 ·rw[if_pos h28]at he⊢;obtain⟨q1,q2⟩:=fail_inv (by decide) (show(if(pop ⟨[],[],st,h,0⟩).2.err=0∧plain (pop ⟨[],[],st,h,0⟩).1=false then fail 9 (pop ⟨[],[],st,h,0⟩).2 else(pop ⟨[],[],st,h,0⟩).2).err=0 from he);obtain⟨-,s,t,g2,g3,g4⟩:=pop_inv q2;simp only at g2⊢;rw[if_neg q1,g4];subst g2;exact .out _ _ _ h28
 rw[if_neg h28]at he⊢
 by_cases h30:i.op=30
 ·rw[if_pos h30]at he⊢;have hg:(gen M (pop ⟨[],[],st,h,0⟩).2).2.err=0∧∀k g,gen M (pop ⟨[],[],st,h,0⟩).2=(some k,g)→(pop ⟨[],[],st,h,0⟩).1=(M.units.getD k.toNat default).takes:=by
   revert he
   generalize gen M (pop ⟨[],[],st,h,0⟩).2=G;obtain⟨o,g⟩:=G
   cases o with
   |none=>intro he;exact⟨he,fun k g h=>by cases h⟩
   |some k=>
    intro he;obtain⟨g1, -, -⟩:=push_inv (show(Ver.push _ _).err=0 from he);obtain⟨q1,q2⟩:=fail_inv (by decide) g1;refine⟨q2,fun k' g' h=>?_⟩;simp only[Prod.mk.injEq,Option.some.injEq]at h;obtain⟨rfl,rfl⟩:=h;exact Classical.byContradiction q1
  obtain⟨hg1,hg2⟩:=hg;obtain⟨g1,s,k,g2,g3,g4⟩:=gen_inv hg1;obtain⟨-,s',t,p2,p3,p4⟩:=pop_inv g1;have ht:=hg2 _ _ g4;rw[g4]at he⊢;obtain⟨-,r2, -⟩:=push_inv (show(Ver.push _ _).err=0 from he);simp only at r2⊢;rw[r2,if_neg (fun hx=>hx ht)];rw[p4]at g2⊢;simp only at g2 p2⊢;rw[p3]at ht;subst g2 p2 ht;rw[app2];exact .resume _ _ _ h30 g3
 rw[if_neg h30]at he⊢
 by_cases h31:i.op=31
 ·rw[if_pos h31]at he⊢;obtain⟨g1,g2, -⟩:=push_inv he;obtain⟨k1,s,k2,k3⟩:=want_inv _ g1;obtain⟨q1,q2⟩:=fail_inv (by decide) k1;rw[if_neg q1]at k2 k3;simp only at k2⊢;rw[g2,if_neg q1,k3];subst k2;exact .yield _ _ h31 (Classical.byContradiction q1)
 rw[if_neg h31]at he⊢;have h32:i.op=32:=by omega
 rw[if_pos h32]at he⊢;obtain⟨g1,g2, -⟩:=push_inv he;obtain⟨-,s,k,k2,k3,k4⟩:=gen_inv g1;simp only at k2⊢;rw[g2,k4];subst k2;exact .alive _ _ _ h32 k3
def vOk(gs:List Nat)(t v:Int):Prop:=In64 v∧(t=2→v=0∨v=1)∧(10≤t→∃k:Nat,v=(k:Int)∧k<gs.length∧((gs.getD k 0:Nat):Int)=t-10∧0<k)
theorem vOk.num{gs:List Nat}{v:Int}(h:In64 v):vOk gs 1 v:=⟨h,fun h=>by omega,fun h=>by omega⟩
theorem vOk.bool{gs:List Nat}{b:Bool}:vOk gs 2 (yes b):=by
 cases b
 ·exact⟨by unfold yes In64;simp,fun _=> .inl rfl,fun h=>by omega⟩
 ·exact⟨by unfold yes In64;simp,fun _=> .inr rfl,fun h=>by omega⟩
theorem vOk.truth{gs:List Nat}{v:Int}(h:v=0∨v=1):vOk gs 2 v:=⟨by unfold In64;omega,fun _=>h,fun h=>by omega⟩
theorem vOk.grow{gs gs':List Nat}{t v:Int}(h:vOk gs t v):vOk (gs ++gs') t v:=by
 refine⟨h.1,h.2.1,fun ht=>?_⟩;obtain⟨k,h1,h2,h3,h4⟩:=h.2.2 ht;refine⟨k,h1,by simp;omega,?_,h4⟩;rw[←h3,List.getD_eq_getElem?_getD,List.getElem?_append_left h2,List.getD_eq_getElem?_getD]
inductive Typs(gs:List Nat):List Int→List Int→Prop
 |nil:Typs gs [] []
 |cons {t v:Int} {ts vs:List Int}:vOk gs t v→Typs gs ts vs→Typs gs (t::ts) (v::vs)
theorem Typs.len{gs:List Nat}{a x:List Int}(h:Typs gs a x):a.length=x.length:=by induction h with|nil=>rfl|cons _ _ ih=>simp[ih]
theorem Typs.app{gs:List Nat}{a x b y:List Int}(h:Typs gs a x)(k:Typs gs b y):Typs gs (a ++b) (x ++y):=by induction h with|nil=>exact k|cons h1 _ ih=>exact .cons h1 ih
theorem Typs.split{gs:List Nat}:∀{a b z:List Int},Typs gs (a ++b) z→∃x y,z=x ++y∧Typs gs a x∧Typs gs b y
 |[],b,z,h=>⟨[],z,rfl, .nil,h⟩
 |t::a,b,z,h=>by
  cases h with
  |cons h1 h2=>
   obtain⟨x,y,e,g1,g2⟩:=Typs.split h2;exact⟨_::x,y,by rw[e];rfl, .cons h1 g1,g2⟩
theorem Typs.one{gs:List Nat}{t v:Int}(h:vOk gs t v):Typs gs [t] [v]:= .cons h .nil
theorem Typs.un1{gs:List Nat}{t:Int}{y:List Int}(h:Typs gs [t] y):∃v,y=[v]∧vOk gs t v:=by
 cases h with
 |cons h1 h2=>cases h2;exact⟨_,rfl,h1⟩
theorem Typs.un2{gs:List Nat}{t u:Int}{y:List Int}(h:Typs gs [t,u] y):∃v w,y=[v,w]∧vOk gs t v∧vOk gs u w:=by
 cases h with
 |cons h1 h2=>obtain⟨w,rfl,hw⟩:=Typs.un1 h2;exact⟨_,_,rfl,h1,hw⟩
theorem Typs.grow{gs gs':List Nat}{a x:List Int}(h:Typs gs a x):Typs (gs ++gs') a x:=by induction h with|nil=>exact .nil|cons h1 _ ih=>exact .cons h1.grow ih
theorem Typs.in64{gs:List Nat}{a x:List Int}(h:Typs gs a x):∀v∈x,In64 v:=by
 induction h with
 |nil=>intro v h;cases h
 |cons h1 _ ih=>intro v h;rcases List.mem_cons.1 h with rfl|h;exact h1.1;exact ih v h
structure Loc(gs:List Nat)(ts:List Int)(h:List Bool)(loc:List Int):Prop where
 len:loc.length=ts.length
 ok:∀j,j<ts.length→h.getD j false=true→vOk gs (ts.getD j 0) (loc.getD j 0)
 in64:∀v∈loc,In64 v
theorem Loc.le{gs:List Nat}{ts:List Int}{h h':List Bool}{loc:List Int}(a:Loc gs ts h loc)(b:Le h' h):Loc gs ts h' loc:=⟨a.len,fun j hj x=>a.ok j hj (b.2 j x),a.in64⟩
theorem Loc.grow{gs gs':List Nat}{ts:List Int}{h:List Bool}{loc:List Int}(a:Loc gs ts h loc):Loc (gs ++gs') ts h loc:=⟨a.len,fun j hj x=>(a.ok j hj x).grow,a.in64⟩
theorem getD_setZ{l:List Int}{k j:Nat}{v:Int}(hk:k<l.length):(l.set k v).getD j 0=if k=j then v else l.getD j 0:=by
 simp only[List.getD_eq_getElem?_getD,List.getElem?_set]
 by_cases h:k=j
 ·subst h;simp[hk]
 ·simp[h]
theorem Loc.put{gs:List Nat}{ts:List Int}{h:List Bool}{loc:List Int}(a:Loc gs ts h loc){k:Nat}(hk:k<ts.length){v:Int}(hv:vOk gs (ts.getD k 0) v):Loc gs ts (h.set k true) (loc.set k v):=by
 have hl:=a.len;refine⟨by rw[List.length_set];exact hl,fun j hj x=>?_,fun w hw=>?_⟩
 ·rw[getD_setZ (by omega)]
  by_cases hkj:k=j
  ·subst hkj;rw[if_pos rfl];exact hv
  ·rw[if_neg hkj];refine a.ok j hj ?_;rw[getD_setB,if_neg (by omega)]at x;exact x
 ·rcases List.mem_or_eq_of_mem_set hw with hw|rfl
  ·exact a.in64 w hw
  ·exact hv.1
section
variable(M:Mdl)(T:Nat→Int→Option Shape)
def Seg(gs:List Nat)(q p:Nat)(seg pend:List Int):Prop:=
 q<M.units.length∧∃st h loc op,T q (p:Int)=some (st ++pend,h)∧seg=loc ++op∧Loc gs (unt M q).locals h loc∧Typs gs st op
inductive Stk(gs:List Nat):List Fr→List Int→List Int→Prop
 |one {q p:Nat} {seg pend:List Int} (h:Seg M T gs q p seg pend):Stk gs [⟨q,p,0⟩] seg pend
 |more {fs:List Fr} {ws:List Int} {q p:Nat} {seg pend:List Int} (hs:Stk gs fs ws [(unt M q).result]) (hk:(unt M q).kind=2) (h:Seg M T gs q p seg pend):Stk gs (fs ++[⟨q,p,ws.length⟩]) (ws ++seg) pend
def Under(gs:List Nat)(q:Nat)(fs:List Fr)(ws:List Int):Prop:=(fs=[]∧ws=[])∨(Stk M T gs fs ws [(unt M q).result]∧(unt M q).kind=2)
end
section
variable{M:Mdl}{T:Nat→Int→Option Shape}{gs gs':List Nat}
theorem Seg.grow{q p:Nat}{seg pend:List Int}(h:Seg M T gs q p seg pend):Seg M T (gs ++gs') q p seg pend:=by
 obtain⟨h1,st,hh,loc,op,h2,h3,h4,h5⟩:=h;exact⟨h1,st,hh,loc,op,h2,h3,h4.grow,h5.grow⟩
theorem Stk.grow{fs:List Fr}{ws pend:List Int}(h:Stk M T gs fs ws pend):Stk M T (gs ++gs') fs ws pend:=by
 induction h with
 |one h=>exact .one h.grow
 |more _ hk h ih=>exact .more ih hk h.grow
theorem Stk.view{fs:List Fr}{ws pend:List Int}(h:Stk M T gs fs ws pend):∃fs0 ws0 q p seg,fs=fs0 ++[⟨q,p,ws0.length⟩]∧ws=ws0 ++seg∧Seg M T gs q p seg pend∧Under M T gs q fs0 ws0:=by
 cases h with
 |one h=>exact⟨[],[],_,_,_,rfl,rfl,h, .inl ⟨rfl,rfl⟩⟩
 |more hs hk h=>exact⟨_,_,_,_,_,rfl,rfl,h, .inr ⟨hs,hk⟩⟩
theorem Under.stk{q p:Nat}{fs:List Fr}{ws seg pend:List Int}(h:Under M T gs q fs ws)(k:Seg M T gs q p seg pend):Stk M T gs (fs ++[⟨q,p,ws.length⟩]) (ws ++seg) pend:=by
 rcases h with⟨rfl,rfl⟩|⟨h1,h2⟩
 ·exact .one k
 ·exact .more h1 h2 k
end
def bot(fs:List Fr):Nat:=(fs.getD 0 default).unit
theorem bot_snoc(fs:List Fr)(f f':Fr)(h:f'.unit=f.unit):bot (fs ++[f'])=bot (fs ++[f]):=by
 cases fs with
 |nil=>exact h
 |cons a r=>rfl
theorem bot_app(fs gs:List Fr)(h:fs≠[]):bot (fs ++gs)=bot fs:=by
 cases fs with
 |nil=>exact absurd rfl h
 |cons a r=>rfl
def gsOf(t:Tk):List Nat:=t.cs.map fun c=>bot c.fr
def co(t:Tk)(k:Nat):Co:=t.cs.getD k default
structure Ok(M:Mdl)(T:Nat→Int→Option Shape)(t:Tk)(ch:List Nat):Prop where
 now:ch[0]?=some t.now
 few:t.cs.length≤31
 nodup:ch.Nodup
 mem:∀k∈ch,k<t.cs.length
 going:∀k,k<t.cs.length→((co t k).st=2↔k∈ch)
 chain:∀i k,ch[i]?=some k→(co t k).up=ch[i+1]?
 root:∀i k,ch[i]?=some k→ch[i+1]?=none→k=0
 top:Stk M T (gsOf t) (cur t).fr (cur t).ws []
 wait:∀i d k,ch[i]?=some d→ch[i+1]?=some k→Stk M T (gsOf t) (co t k).fr (co t k).ws [(unt M (bot (co t d).fr)).result]
 fresh:∀k,k<t.cs.length→(co t k).st=0→Stk M T (gsOf t) (co t k).fr (co t k).ws []
 held:∀k,k<t.cs.length→(co t k).st=1→Stk M T (gsOf t) (co t k).fr (co t k).ws [(unt M (bot (co t k).fr)).takes]
 lens:∀k,k<t.cs.length→(co t k).ws.length≤400∧(co t k).fr.length≤40
 kinds:∀k,k<t.cs.length→bot (co t k).fr<M.units.length∧(unt M (bot (co t k).fr)).kind=if k=0 then 4 else 3
 sts:∀k,k<t.cs.length→(co t k).st≤3
theorem Ok.nowlt{M:Mdl}{T:Nat→Int→Option Shape}{t:Tk}{ch:List Nat}(h:Ok M T t ch):t.now<t.cs.length:=h.mem _ (List.mem_of_getElem? h.now)
theorem cur_co(t:Tk):cur t=co t t.now:=rfl
theorem co_setC{t:Tk}{k j:Nat}{c:Co}(h:k<t.cs.length):co (setC t k c) j=if k=j then c else co t j:=by
 unfold co setC;simp only[List.getD_eq_getElem?_getD,List.getElem?_set]
 by_cases hk:k=j
 ·subst hk;simp[h]
 ·simp[hk]
theorem setC_len(t:Tk)(k:Nat)(c:Co):(setC t k c).cs.length=t.cs.length:=List.length_set
theorem cur_set{t:Tk}{c:Co}(h:t.now<t.cs.length):cur (setCur t c)=c:=by
 show co (setC t t.now c) t.now=c;rw[co_setC h,if_pos rfl]
theorem set_set(t:Tk)(c d:Co):setCur (setCur t c) d=setCur t d:=by
 unfold setCur setC;simp[List.set_set]
theorem set_now(t:Tk)(c:Co):(setCur t c).now=t.now:=rfl
theorem set_len(t:Tk)(c:Co):(setCur t c).cs.length=t.cs.length:=List.length_set
theorem gsOf_len(t:Tk):(gsOf t).length=t.cs.length:=List.length_map _
theorem gsOf_at(t:Tk){k:Nat}(h:k<t.cs.length):(gsOf t).getD k 0=bot (co t k).fr:=by
 unfold gsOf co;rw[List.getD_eq_getElem?_getD,List.getElem?_map,List.getElem?_eq_getElem h,List.getD_eq_getElem?_getD,List.getElem?_eq_getElem h];rfl
theorem gsOf_setC{t:Tk}{k:Nat}{c:Co}(h:k<t.cs.length)(hb:bot c.fr=bot (co t k).fr):gsOf (setC t k c)=gsOf t:=by
 unfold gsOf setC;simp only[List.map_set];rw[hb];refine List.ext_getElem (by simp) (fun i h1 h2=>?_);rw[List.getElem_set]
 split
 ·rename_i hi;subst hi
  unfold co;rw[List.getElem_map,List.getD_eq_getElem?_getD,List.getElem?_eq_getElem h];rfl
 ·rfl
theorem nodup_at:∀{l:List Nat},l.Nodup→∀{i j a:Nat},l[i]?=some a→l[j]?=some a→i=j
 |[],_,i,j,a,h,_=>by simp at h
 |x::l,hn,i,j,a,hi,hj=>by
  obtain⟨h1,h2⟩:=List.nodup_cons.1 hn
  cases i with
  |zero=>
   cases j with
   |zero=>rfl
   |succ j=>
    simp at hi hj;subst hi;exact absurd (List.mem_of_getElem? hj) h1
  |succ i=>
   cases j with
   |zero=>
    simp at hi hj;subst hj;exact absurd (List.mem_of_getElem? hi) h1
   |succ j=>
    have:=nodup_at h2 (i:=i) (j:=j) (a:=a) (by simpa using hi) (by simpa using hj);omega
theorem Ok.put{M:Mdl}{T:Nat→Int→Option Shape}{t:Tk}{ch:List Nat}(h:Ok M T t ch){c:Co}(hst:c.st=(cur t).st)(hup:c.up=(cur t).up)(hb:bot c.fr=bot (cur t).fr)
  (hs:Stk M T (gsOf t) c.fr c.ws []) (hl:c.ws.length≤400∧c.fr.length≤40):Ok M T (setCur t c) ch:=by
 have hn:=h.nowlt;have hg:gsOf (setCur t c)=gsOf t:=gsOf_setC hn hb;have hc:∀j,co (setCur t c) j=if t.now=j then c else co t j:=fun j=>co_setC hn
 have hcur:(co (setCur t c) t.now)=c:=by rw[hc,if_pos rfl]
 have hst':∀j,(co (setCur t c) j).st=(co t j).st:=fun j=>by
  rw[hc];split
  ·rename_i e;subst e;exact hst
  ·rfl
 have hup':∀j,(co (setCur t c) j).up=(co t j).up:=fun j=>by
  rw[hc];split
  ·rename_i e;subst e;exact hup
  ·rfl
 have hb':∀j,bot (co (setCur t c) j).fr=bot (co t j).fr:=fun j=>by
  rw[hc];split
  ·rename_i e;subst e;exact hb
  ·rfl
 have hne:∀j,t.now≠j→co (setCur t c) j=co t j:=fun j hj=>by rw[hc,if_neg hj]
 have hin:t.now∈ch:=List.mem_of_getElem? h.now;refine⟨h.now,by rw[set_len];exact h.few,h.nodup,by rw[set_len];exact h.mem,fun k hk=>?_,fun i k hk=>?_,h.root,?_,fun i d k hd hk=>?_,fun k hk h0=>?_,fun k hk h1=>?_,fun k hk=>?_,fun k hk=>?_,fun k hk=>?_⟩
 ·rw[set_len]at hk;rw[hst'];exact h.going k hk
 ·rw[hup'];exact h.chain i k hk
 ·rw[hg,cur_set hn];exact hs
 ·rw[hg,hb'];have hk':t.now≠k:=fun e=>by
   subst e;have h0:=h.now;have:=nodup_at h.nodup h0 hk;omega
  rw[hne k hk'];exact h.wait i d k hd hk
 ·rw[set_len]at hk;rw[hst']at h0;have hk':t.now≠k:=fun e=>by subst e;have:=(h.going _ hk).2 hin;omega
  rw[hg,hne k hk'];exact h.fresh k hk h0
 ·rw[set_len]at hk;rw[hst']at h1;have hk':t.now≠k:=fun e=>by subst e;have:=(h.going _ hk).2 hin;omega
  rw[hg,hne k hk'];exact h.held k hk h1
 ·rw[set_len]at hk;rw[hc];split
  ·exact hl
  ·exact h.lens k hk
 ·rw[set_len]at hk;rw[hb'];exact h.kinds k hk
 ·rw[set_len]at hk;rw[hst'];exact h.sts k hk
end Go.Proofs.Ytgnhfinabhimpaa.Vm
