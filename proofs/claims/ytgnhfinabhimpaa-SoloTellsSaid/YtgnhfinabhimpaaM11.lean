/- A right module with shorter code is right. Plain Lean. -/
import Derived.Test.YtgnhfinabhimpaaM10
set_option linter.unusedVariables false
set_option linter.unusedSimpArgs false
set_option linter.unusedSectionVars false
set_option maxRecDepth 100000
namespace Go.Proofs.Ytgnhfinabhimpaa.Opt
open ImgM Ver
def whr(l:List Ins)(a:Int):Int:=(pass0 l).wh.getD a.toNat 0
def src(l:List Ins):List Nat:=srcs l (bs l)
def tau(l:List Ins)(τ:Int→Option Shape)(j:Int):Option Shape:=if 0≤j then((src l)[j.toNat]?).bind fun q=>τ (q:Int)else none
theorem tau_nat(l:List Ins)(τ:Int→Option Shape)(j:Nat):tau l τ (j:Int)=((src l)[j]?).bind fun q=>τ (q:Int):=by unfold tau;rw[if_pos (by omega)];rfl
theorem pass_code(l:List Ins):(pass l).1=((bs l).flatMap (em l)).map (reloc (pass0 l).wh):=by unfold pass;rw[pass0_out]
theorem pass_length(l:List Ins):(pass l).1.length=((bs l).flatMap (em l)).length:=by rw[pass_code,List.length_map]
theorem pass_at{l:List Ins}{j:Nat}{i:Ins}(h:((bs l).flatMap (em l))[j]?=some i):at_ (pass l).1 j=reloc (pass0 l).wh i:=by
 unfold at_;rw[pass_code,List.getD_eq_getElem?_getD,List.getElem?_map,h];rfl
theorem src_first{l:List Ins}{A C:List Nat}{q:Nat}(h:bs l=A ++q::C)(he:em l q≠[]):(src l)[(A.flatMap (em l)).length]?=some q:=by
 unfold src;rw[h,srcs_app,List.getElem?_append_right (by rw[srcs_len];exact Nat.le_refl _),srcs_len,Nat.sub_self];unfold srcs;rw[List.flatMap_cons,if_neg he];rfl
theorem whr_lt{l:List Ins}:∀(C A:List Nat) (q:Nat),bs l=A ++q::C→(A.flatMap (em l)).length<(pass l).1.length
 |[],A,q,h=>by
  obtain⟨hq,hn⟩:=bs_next h;rcases hn with⟨hn, -⟩|⟨-,C',hn⟩
  ·rw[pass_length,h,List.flatMap_append,List.length_append,List.flatMap_cons,em_last hn];simp
  ·cases hn
 |c::C,A,q,h=>by
  have:=whr_lt C (A ++[q]) c (by rw[h];simp);rw[List.flatMap_append,List.length_append]at this;omega
theorem tgt_of{u:Unt}{i:Ins}(hi:i∈u.code)(hj:isJ i=true):tgt u.code i.a=true:=by
 unfold tgt;exact List.any_eq_true.2 ⟨i,hi,by rw[hj];simp⟩
section
variable{M:Mdl}{u:Unt}{τ:Int→Option Shape}(hc:Cert M u τ)
include hc
theorem chain:∀(C A:List Nat) (q:Nat) (st:List Int) (h:List Bool),bs u.code=A ++q::C→τ (q:Int)=some (st,h)→∃h',tau u.code τ ((A.flatMap (em u.code)).length:Int)=some (st,h')∧Le h' h:=by
 have base:∀(C A:List Nat) (q:Nat) (st:List Int) (h:List Bool),bs u.code=A ++q::C→τ (q:Int)=some (st,h)→em u.code q≠[]→∃h',tau u.code τ ((A.flatMap (em u.code)).length:Int)=some (st,h')∧Le h' h:=by
  intro C A q st h hb ht he;rw[tau_nat,src_first hb he];exact⟨h,ht,Le.refl _⟩
 intro C
 induction C with
 |nil=>
  intro A q st h hb ht;refine base [] A q st h hb ht ?_;obtain⟨hq,hn⟩:=bs_next hb;rcases hn with⟨hn, -⟩|⟨-,C',hn⟩
  ·rw[em_last hn];simp
  ·cases hn
 |cons c C ih=>
  intro A q st h hb ht
  by_cases he:em u.code q=[]
  ·have hs:(shorter u.code q).2≠0:=fun h0=>by unfold em at he;rw[if_pos h0]at he;cases he
   obtain⟨hq,hn⟩:=bs_next hb;rcases hn with⟨-,hn⟩|⟨-,C',hn⟩
   ·cases hn
   ·simp only[List.cons.injEq]at hn;obtain⟨rfl, -⟩:=hn;rcases piece hc ht hs with⟨-,h',t',l'⟩|⟨i,hi, -⟩|⟨i,hi, -⟩
    ·obtain⟨h2,t2,l2⟩:=ih (A ++[q]) _ st h' (by rw[hb];simp) t';rw[List.flatMap_append,List.flatMap_cons,he]at t2;simp only[List.flatMap_nil,List.append_nil]at t2;exact⟨h2,t2,l2.trans l'⟩
    ·rw[he]at hi;cases hi
    ·rw[he]at hi;cases hi
  ·exact base _ A q st h hb ht he
theorem land{a:Int}{st:List Int}{h:List Bool}(h0:0≤a)(h1:a<(u.code.length:Int))(ht:tgt u.code a=true)(hτ:τ a=some (st,h)):∃h',tau u.code τ (whr u.code a)=some (st,h')∧Le h' h:=by
 obtain⟨n,rfl⟩:∃n:Nat,a=(n:Int):=⟨a.toNat,by omega⟩;obtain⟨A,C,hb⟩:=bs_tgt (by omega) ht;have hw:whr u.code (n:Int)=((A.flatMap (em u.code)).length:Int):=pass0_wh hb;rw[hw];exact chain hc C A n st h hb hτ
theorem follow{A C:List Nat}{q:Nat}{i:Ins}(hb:bs u.code=A ++q::C)(hi:em u.code q=[i]){st:List Int}{h:List Bool}(hτ:τ (nx u.code q:Int)=some (st,h)):∃h',tau u.code τ (((A.flatMap (em u.code)).length:Int)+1)=some (st,h')∧Le h' h:=by
 obtain⟨hq,hn⟩:=bs_next hb;have hr:=hc.rng _ _ hτ;rcases hn with⟨hn, -⟩|⟨-,C',rfl⟩
 ·omega
 ·have:=chain hc C' (A ++[q]) (nx u.code q) st h (by rw[hb];simp) hτ;rw[List.flatMap_append,List.flatMap_cons,hi]at this;simpa using this
theorem cert_pass(h1:1≤u.code.length)(hin:∀i∈u.code,instr M u i=0):Cert M (withC u (pass u.code).1) (tau u.code τ):=by
 have hmem:∀q,q<u.code.length→at_ u.code q∈u.code:=fun q hq=>by
  unfold at_;rw[List.getD_eq_getElem?_getD,List.getElem?_eq_getElem hq];exact List.getElem_mem _
 have hgo:∀q,q<u.code.length→isJ (at_ u.code q)=true→0≤(at_ u.code q).a∧(at_ u.code q).a<(u.code.length:Int)∧tgt u.code (at_ u.code q).a=true:=fun q hq hj=>by
  have:=(instr_ok (hin _ (hmem q hq))).jump (isJ_iff.1 hj);exact⟨this.1,this.2,tgt_of (hmem q hq) hj⟩
 refine⟨?_,fun j s hj=>?_,fun j s hj=>?_⟩
 ·obtain⟨h,ht,hl⟩:=hc.start;obtain⟨C,hb⟩:=bs_zero (l:=u.code) (by omega);obtain⟨h',t',l'⟩:=chain hc C [] 0 [] h hb ht;exact⟨h',t',l'.trans hl⟩
 ·unfold tau at hj
  by_cases h0:0≤j
  ·rw[if_pos h0]at hj;refine⟨h0,?_⟩
   cases hs:(src u.code)[j.toNat]? with
   |none=>rw[hs]at hj;cases hj
   |some q=>
    have:=(List.getElem?_eq_some_iff.1 hs).1;unfold src at this;rw[srcs_len,←pass_length]at this;show j<((pass u.code).1.length:Int);omega
  ·rw[if_neg h0]at hj;cases hj
 ·by_cases h0':¬0≤j
  ·unfold tau at hj;rw[if_neg h0']at hj;cases hj
  have h0:0≤j:=Int.not_lt.1 (fun h=>h0' (by omega));obtain⟨j,rfl⟩:∃n:Nat,j=(n:Int):=⟨j.toNat,by omega⟩;rw[tau_nat]at hj
  cases hs:(src u.code)[j]? with
  |none=>rw[hs]at hj;cases hj
  |some q=>
   rw[hs]at hj;have hτ:τ (q:Int)=some s:=hj;obtain⟨A,C,i,hb,hi,hjA,hout⟩:=src_at _ _ _ hs;have hnew:ins (withC u (pass u.code).1) (j:Int)=reloc (pass0 u.code).wh i:=(ins_at _ _).trans (pass_at hout);obtain⟨st,h⟩:=s;have hlift:∀{st':List Int} {h' hh:List Bool},(∃h2,tau u.code τ ((j:Int)+1)=some (st',h2)∧Le h2 h')→Le h' hh→∃h2,tau u.code τ ((j:Int)+1)=some (st',h2)∧Le h2 hh:=fun⟨h2,a,b⟩ c=>⟨h2,a,b.trans c⟩
   obtain⟨hq, -⟩:=bs_next hb
   by_cases hse:(shorter u.code q).2=0
   ·--as it was
    have hiq:i=at_ u.code q:=by unfold em at hi;rw[if_pos hse]at hi;simpa using hi.symm
    have hnx:nx u.code q=q+1:=by unfold nx;rw[if_pos hse]
    have hf:=hc.fits _ _ hτ;have hok:=hf.ok;have hnn:=hf.next;rw[ins_at,←hiq]at hok hnn;refine⟨?_,fun x hx=>?_⟩
    ·rw[hnew,sem_code,sem_reloc];exact hok
    ·rw[hnew,sem_code,sem_reloc];rw[hnew]at hx;unfold nexts at hx;rw[reloc_op]at hx;have hon:((q:Int)+1)∈nexts i (q:Int)→∃h2,tau u.code τ ((j:Int)+1)=some ((sem M u i (st,h)).stack,h2)∧Le h2 (sem M u i (st,h)).has:=fun hm=>by
      obtain⟨h',t',l'⟩:=hnn _ hm;have e:((q:Int)+1)=((nx u.code q:Nat):Int):=by rw[hnx];simp
      rw[e]at t';rw[hjA];exact⟨_,(follow hc hb hi t').choose_spec.1,(follow hc hb hi t').choose_spec.2.trans l'⟩
     have hjump:isJ i=true→i.a∈nexts i (q:Int)→∃h2,tau u.code τ (reloc (pass0 u.code).wh i).a=some ((sem M u i (st,h)).stack,h2)∧Le h2 (sem M u i (st,h)).has:=fun hJ hm=>by
      obtain⟨h',t',l'⟩:=hnn _ hm;have hg:=hgo q hq (by rw[←hiq];exact hJ);rw[←hiq]at hg;obtain⟨h2,t2,l2⟩:=land hc hg.1 hg.2.1 hg.2.2 t';rw[reloc_a hJ];exact⟨h2,t2,l2.trans l'⟩
     by_cases h21:i.op=21
     ·rw[if_pos h21]at hx;simp at hx;subst hx;exact hjump (isJ_iff.2 (.inl h21)) (by unfold nexts;rw[if_pos h21];simp)
     rw[if_neg h21]at hx
     by_cases h22:i.op=22
     ·rw[if_pos h22]at hx;simp at hx;rcases hx with rfl|rfl
      ·exact hjump (isJ_iff.2 (.inr h22)) (by unfold nexts;rw[if_neg h21,if_pos h22];simp)
      ·exact hon (by unfold nexts;rw[if_neg h21,if_pos h22];simp)
     rw[if_neg h22]at hx
     by_cases h24:i.op=24∨i.op=25
     ·rw[if_pos h24]at hx;cases hx
     rw[if_neg h24]at hx;simp at hx;subst hx;exact hon (by unfold nexts;rw[if_neg h21,if_neg h22,if_neg h24];simp)
   ·rcases piece hc hτ hse with⟨he, -⟩|⟨i',hi',hop,herr,h',t',l'⟩|⟨i',hi',hop,h',t',l'⟩
    ·rw[he]at hi;cases hi
    ·obtain rfl:i=i':=by rw[hi]at hi';simpa using hi'
     have hnj:isJ i=false:=by
      cases hx:isJ i with
      |false=>rfl
      |true=>rw[isJ_iff]at hx;omega
     rw[reloc_no hnj]at hnew;refine⟨?_,fun x hx=>?_⟩
     ·rw[hnew,sem_code];exact herr
     ·rw[hnew,nexts_on (by omega) (by omega) (by omega) (by omega)]at hx;simp at hx;subst hx;rw[hnew,sem_code,hjA];obtain⟨h2,t2,l2⟩:=follow hc hb hi t';exact⟨h2,t2,l2.trans l'⟩
    ·obtain rfl:i=i':=by rw[hi]at hi';simpa using hi'
     have hJ:isJ i=true:=isJ_iff.2 (.inl hop);refine⟨?_,fun x hx=>?_⟩
     ·rw[hnew,sem_code,sem_reloc,sem_jump hop]
     ·rw[hnew]at hx;unfold nexts at hx;rw[reloc_op,if_pos hop]at hx;simp at hx;subst hx;rw[hnew,sem_code,sem_reloc,sem_jump hop,reloc_a hJ];have hr:=hc.rng _ _ t'
      --it came of a jump of the old code,to the same place
      have hg:tgt u.code i.a=true:=by
       rcases shorter_cases hse with⟨r,g1,g2,g3⟩|⟨r,g1,g2,g3⟩|⟨g1,g2,g3,g4⟩
       ·unfold em at hi;rw[if_neg hse,g1]at hi;simp only at hi;subst hi;unfold three at g3
        split at g3
        ·cases g3
        split at g3
        ·cases g3
        unfold known at g3
        split at g3
        ·simp at g3;subst g3;simp at hop
        ·simp at g3;subst g3;simp at hop
       ·unfold em at hi;rw[if_neg hse,g1]at hi;simp only at hi;subst hi;unfold pair at g3
        repeat' split at g3
        all_goals first|(cases g3;done)|skip
        ·unfold known at g3;simp at g3;subst g3;simp at hop
        ·unfold known at g3;simp at g3;subst g3;simp at hop
        ·rename_i hb2
         simp at g3;subst g3;have hq1:=free_lt g2;show tgt u.code (at_ u.code (q+1)).a=true;exact tgt_of (hmem (q+1) (by omega)) (isJ_iff.2 (.inr hb2))
       ·unfold em at hi;rw[if_neg hse,g1]at hi
        cases hi
      obtain⟨h2,t2,l2⟩:=land hc hr.1 hr.2 hg t';exact⟨h2,t2,l2.trans l'⟩
end
structure UOk(M:Mdl)(u:Unt):Prop where
 head:head M u=0
 ins:∀i∈u.code,instr M u i=0
 cert:∃τ,Cert M u τ
theorem head_len{M:Mdl}{u:Unt}(h:Ver.head M u=0):1≤u.code.length∧u.code.length≤4000:=by
 unfold Ver.head at h
 by_cases e1:u.kind≠2∧u.kind≠3∧u.kind≠4
 ·rw[if_pos e1]at h;cases h
 rw[if_neg e1]at h
 by_cases e2:200<u.locals.length∨u.params<0∨6<u.params∨(u.locals.length:Int)<u.params∨(u.kind=4∧0<u.params)
 ·rw[if_pos e2]at h;cases h
 rw[if_neg e2]at h
 by_cases e3:u.code.length<1∨4000<u.code.length
 ·rw[if_pos e3]at h;cases h
 omega
theorem head_withC{M:Mdl}{u:Unt}{c:List Ins}(h:Ver.head M u=0)(h1:1≤c.length)(h2:c.length≤4000):Ver.head M (withC u c)=0:=by
 have hl:=head_len h;generalize hw:withC u c=u';have k1:u'.kind=u.kind:=by rw[←hw];rfl
 have k2:u'.params=u.params:=by rw[←hw];rfl
 have k3:u'.locals=u.locals:=by rw[←hw];rfl
 have k4:u'.result=u.result:=by rw[←hw];rfl
 have k5:u'.takes=u.takes:=by rw[←hw];rfl
 have k6:u'.code=c:=by rw[←hw];rfl
 clear hw;unfold Ver.head at h⊢;rw[k1,k2,k3,k4,k5,k6]
 by_cases e1:u.kind≠2∧u.kind≠3∧u.kind≠4
 ·rw[if_pos e1]at h;cases h
 rw[if_neg e1]at h⊢
 by_cases e2:200<u.locals.length∨u.params<0∨6<u.params∨(u.locals.length:Int)<u.params∨(u.kind=4∧0<u.params)
 ·rw[if_pos e2]at h;cases h
 rw[if_neg e2]at h⊢;rw[if_neg (by omega)]at h⊢;exact h
theorem instr_withC{M:Mdl}{u:Unt}{c:List Ins}{i:Ins}(h:instr M u i=0)(hj:isJ i=false):instr M (withC u c) i=0:=by
 have h21:¬(i.op=21∨i.op=22):=fun hx=>by rw[isJ_iff.2 hx]at hj;cases hj
 unfold instr at h⊢;rw[if_neg h21]at h⊢;exact h
theorem instr_jump{M:Mdl}{u:Unt}{i:Ins}(hj:isJ i=true)(h0:0≤i.a)(h1:i.a<(u.code.length:Int)):instr M u i=0:=by
 rw[isJ_iff]at hj;unfold instr;rw[if_neg (by omega),if_neg (by omega),if_pos hj];simp[rng,h0,h1]
theorem instr_push{M:Mdl}{u:Unt}(n a:Int):instr M u ⟨1,a,n⟩=0:=by
 unfold instr;simp
theorem instr_truth{M:Mdl}{u:Unt}{v:Int}(n:Int)(h:v=0∨v=1):instr M u ⟨2,v,n⟩=0:=by
 unfold instr;rw[if_pos rfl];rcases h with rfl|rfl<;>rfl
theorem truth_in{M:Mdl}{u:Unt}{i:Ins}(h:instr M u i=0)(ho:i.op=2):i.a=0∨i.a=1:=by
 unfold instr at h;rw[if_pos ho]at h;have:=rng_eq h;rw[Bool.or_eq_true,decide_eq_true_eq,decide_eq_true_eq]at this;exact this
theorem yes_in(b:Bool):yes b=0∨yes b=1:=by cases b<;>simp[yes]
theorem two2_truth{op x y:Int}(h:12<op)(h20:op≤20)(hx:18<op→(x=0∨x=1)∧(y=0∨y=1)):two2 op x y=0∨two2 op x y=1:=by
 unfold two2;rw[if_neg (by omega),if_neg (by omega),if_neg (by omega),if_neg (by omega)]
 repeat' split
 all_goals first|exact yes_in _|skip
 ·obtain⟨h1,h2⟩:=hx (by omega);rcases h1 with rfl|rfl<;>rcases h2 with rfl|rfl<;>decide
 ·obtain⟨h1,h2⟩:=hx (by omega);rcases h1 with rfl|rfl<;>rcases h2 with rfl|rfl<;>decide
theorem cval_truth{M:Mdl}{u:Unt}{i:Ins}(h:instr M u i=0)(ho:i.op=2):cval i=0∨cval i=1:=by
 unfold cval;rw[if_neg (by omega),if_pos ho];exact truth_in h ho
theorem isC_of{i:Ins}(h:¬isC i=false):i.op=1∨i.op=2:=isC_iff.1 (by simpa using h)
theorem mem_at{l:List Ins}{q:Nat}(hq:q<l.length):at_ l q∈l:=by
 unfold at_;rw[List.getD_eq_getElem?_getD,List.getElem?_eq_getElem hq];exact List.getElem_mem _
theorem em_mem{M:Mdl}{u:Unt}(hin:∀i∈u.code,instr M u i=0){q:Nat}(hq:q<u.code.length){i:Ins}(hi:i∈em u.code q):i∈u.code∨(∃v,i=⟨1,0,v⟩)∨(∃v,i=⟨2,v,0⟩∧(v=0∨v=1))∨(i.op=21∧∃j∈u.code,isJ j=true∧i.a=j.a):=by
 by_cases hs:(shorter u.code q).2=0
 ·unfold em at hi;rw[if_pos hs]at hi;simp at hi;subst hi;exact .inl (mem_at hq)
 ·unfold em at hi;rw[if_neg hs]at hi;rcases shorter_cases hs with⟨r,g1,g2,g3⟩|⟨r,g1,g2,g3⟩|⟨g1,g2,g3,g4⟩
  ·rw[g1]at hi;have:=free_lt g2;have m1:=hin _ (mem_at (l:=u.code) (q:=q) (by omega));have m2:=hin _ (mem_at (l:=u.code) (q:=q+1) (by omega));simp only at hi;unfold three at g3
   split at g3
   ·cases g3
   rename_i n1
   split at g3
   ·cases g3
   rename_i n2
   cases g3
   unfold known at hi
   split at hi
   ·rename_i h12
    simp at hi h12;subst hi;refine .inr (.inr (.inl ⟨_,rfl,two2_truth h12 ?_ (fun h18=>?_)⟩))
    ·exact Int.not_lt.1 fun hx=>n1 (.inr (.inr (.inr (.inr (.inl hx)))))
    ·have c1:(at_ u.code q).op=2:=Classical.byContradiction fun hx=>n2 ⟨⟨fun _=>hx,fun _=>by
      have:(at_ u.code (q+2)).op≤20:=Int.not_lt.1 fun hx=>n1 (.inr (.inr (.inr (.inr (.inl hx)))))
      omega⟩,by omega,by omega⟩
     have c2:(at_ u.code q).op=(at_ u.code (q+1)).op:=Classical.byContradiction fun hx=>n1 (.inr (.inr (.inl hx)))
     exact⟨cval_truth m1 c1,cval_truth m2 (by omega)⟩
   ·simp at hi;subst hi;exact .inr (.inl ⟨_,rfl⟩)
  ·rw[g1]at hi;have:=free_lt g2;have m1:=hin _ (mem_at (l:=u.code) (q:=q) (by omega));simp only at hi;unfold pair at g3
   split at g3
   ·cases g3;cases hi
   split at g3
   ·cases g3
   rename_i n0
   split at g3
   ·cases g3
    simp[known]at hi;subst hi;exact .inr (.inl ⟨_,rfl⟩)
   split at g3
   ·cases g3
   rename_i n1
   have c1:(at_ u.code q).op=2:=by have:=isC_of n0;omega
   split at g3
   ·cases g3
    simp[known]at hi;subst hi;refine .inr (.inr (.inl ⟨_,rfl,?_⟩));rcases cval_truth m1 c1 with h|h<;>rw[h]<;>decide
   split at g3
   ·cases g3;cases hi
   split at g3
   ·rename_i hb2
    cases g3
    simp at hi;subst hi;exact .inr (.inr (.inr ⟨rfl,_,mem_at (l:=u.code) (q:=q+1) (by omega),isJ_iff.2 (.inr hb2),rfl⟩))
   ·cases g3
  ·rw[g1]at hi;cases hi
theorem mem_pass{l:List Ins}{i:Ins}(h:i∈(pass l).1):∃q j,q<l.length∧j∈em l q∧i=reloc (pass0 l).wh j:=by
 rw[pass_code]at h;obtain⟨j,hj,rfl⟩:=List.mem_map.1 h;obtain⟨q,hq,hj⟩:=List.mem_flatMap.1 hj;exact⟨q,j,(pcs_ge _ _ q hq).2,hj,rfl⟩
theorem pass_pos{l:List Ins}(h:1≤l.length):1≤(pass l).1.length:=by
 obtain⟨C,hb⟩:=bs_zero (l:=l) (by omega);have:=whr_lt C [] 0 hb;omega
theorem UOk.pass{M:Mdl}{u:Unt}(h:UOk M u):UOk M (withC u (pass u.code).1):=by
 have hl:=head_len h.head;have hp:=pass_len u.code;refine⟨head_withC h.head (pass_pos hl.1) (by omega),fun i hi=>?_,?_⟩
 ·obtain⟨q,j,hq,hj,rfl⟩:=mem_pass hi;have hgo:∀k,isJ k=true→(k∈u.code∨(k.op=21∧∃j∈u.code,isJ j=true∧k.a=j.a))→instr M (withC u (Opt.pass u.code).1) (reloc (pass0 u.code).wh k)=0:=by
   intro k hk hm;have hJ:isJ (reloc (pass0 u.code).wh k)=true:=by rw[isJ_iff,reloc_op,←isJ_iff];exact hk
   obtain⟨x,hx,hxj,hxa⟩:∃x∈u.code,isJ x=true∧k.a=x.a:=by
    rcases hm with hm|⟨-,hm⟩
    ·exact⟨k,hm,hk,rfl⟩
    ·exact hm
   have hxo:=(instr_ok (h.ins x hx)).jump (isJ_iff.1 hxj);obtain⟨n,hn⟩:∃n:Nat,k.a=(n:Int):=⟨k.a.toNat,by omega⟩;obtain⟨A,C,hb⟩:=bs_tgt (l:=u.code) (a:=n) (by omega) (by rw[←hn,hxa];exact tgt_of hx hxj);have hw:=pass0_wh hb;have hlt:=whr_lt C A n hb;refine instr_jump hJ ?_ ?_
   ·rw[reloc_a hk,hn,Int.toNat_natCast,hw];omega
   ·rw[reloc_a hk,hn,Int.toNat_natCast,hw];show _<((Opt.pass u.code).1.length:Int);omega
  rcases em_mem h.ins hq hj with hm|⟨v,rfl⟩|⟨v,rfl,hv⟩|hm
  ·cases hx:isJ j with
   |true=>exact hgo j hx (.inl hm)
   |false=>rw[reloc_no hx];exact instr_withC (h.ins j hm) hx
  ·exact instr_push _ _
  ·exact instr_truth _ hv
  ·exact hgo j (isJ_iff.2 (.inl hm.1)) (.inr hm)
 ·obtain⟨τ,hτ⟩:=h.cert;exact⟨_,cert_pass hτ hl.1 h.ins⟩
theorem UOk.codeN{M:Mdl}:∀(n:Nat) {u:Unt},UOk M u→UOk M (withC u (codeN n u.code))
 |0,u,h=>h
 |n+1,u,h=>by
  unfold Opt.codeN
  split
  ·have:=UOk.codeN n h.pass;exact this
  ·exact h.pass
theorem UOk.code{M:Mdl}{u:Unt}(h:UOk M u):UOk M (unit u):=UOk.codeN _ h
theorem mdl_len(M:Mdl):(mdl M).units.length=M.units.length:=List.length_map _
end Go.Proofs.Ytgnhfinabhimpaa.Opt


namespace Go.Proofs.Ytgnhfinabhimpaa.Vm
open ImgM Ver Opt
structure Certs(M:Mdl)(T:Nat→Int→Option Shape):Prop where
 form:FormOk M
 in64:∀q,q<M.units.length→∀i∈(unt M q).code,In64 i.n∧In64 i.a
 cert:∀q,q<M.units.length→Cert M (unt M q) (T q)
 lens:∀q p s,q<M.units.length→T q p=some s→s.2.length=(unt M q).locals.length
structure EnvOk{ν:Type}(V:Env ν)(M:Mdl)(K:ν→Prop):Prop where
 take:∀s b,K s→b<M.boxes.length→V.empty s b=false→K (V.take s b).2∧In64 (V.take s b).1∧((M.boxes.getD b default).1=2→(V.take s b).1=0∨(V.take s b).1=1)
 put:∀s b v,K s→b<M.boxes.length→V.full s b=false→In64 v→((M.boxes.getD b default).1=2→v=0∨v=1)→K (V.put s b v)
 tell:∀s e,K s→K (V.tell s e)
structure At(M:Mdl)(T:Nat→Int→Option Shape)(t:Tk)(fs0:List Fr)(ws0:List Int)(q p:Nat)(st:List Int)(h:List Bool)(loc op:List Int):Prop where
 fr:(cur t).fr=fs0 ++[⟨q,p,ws0.length⟩]
 ws:(cur t).ws=ws0 ++(loc ++op)
 hq:q<M.units.length
 hT:T q (p:Int)=some (st,h)
 loc:Loc (gsOf t) (unt M q).locals h loc
 op:Typs (gsOf t) st op
 under:Under M T (gsOf t) q fs0 ws0
section
variable{M:Mdl}{T:Nat→Int→Option Shape}{t:Tk}{ch:List Nat}
theorem Ok.at_(h:Ok M T t ch):∃fs0 ws0 q p st hh loc op,At M T t fs0 ws0 q p st hh loc op:=by
 obtain⟨fs0,ws0,q,p,seg,e1,e2,⟨hq,st,hh,loc,op,g1,g2,g3,g4⟩,hu⟩:=h.top.view;rw[List.append_nil]at g1;exact⟨fs0,ws0,q,p,st,hh,loc,op,e1,by rw[e2,g2],hq,g1,g3,g4,hu⟩
variable{fs0:List Fr}{ws0:List Int}{q p:Nat}{st:List Int}{hh:List Bool}{loc op:List Int}
theorem snoc_get{α:Type} [Inhabited α](l:List α)(a:α):(l ++[a]).getD ((l ++[a]).length-1) default=a:=by simp
theorem snoc_set{α:Type}(l:List α)(a b:α):(l ++[a]).set ((l ++[a]).length-1) b=l ++[b]:=by simp
theorem snoc_getZ(l:List Int)(a:Int):(l ++[a]).getD ((l ++[a]).length-1) 0=a:=by simp
theorem snoc_take{α:Type}(l a:List α):(l ++a).take ((l ++a).length-a.length)=l:=by simp
theorem At.top(a:At M T t fs0 ws0 q p st hh loc op):topF (cur t)=⟨q,p,ws0.length⟩:=by
 unfold topF;rw[a.fr];exact snoc_get _ _
def thr(c:Co)(fs0:List Fr)(f:Fr)(ws:List Int):Co:=⟨c.st,c.up,fs0 ++[f],ws⟩
theorem At.pc(a:At M T t fs0 ws0 q p st hh loc op)(n:Nat):setPc n t=setCur t (thr (cur t) fs0 ⟨q,n,ws0.length⟩ (ws0 ++(loc ++op))):=by
 unfold setPc setTop thr;rw[a.top,a.fr,snoc_set,a.ws]
theorem last_set{c:Co}{w:List Int}{v:Int}(hn:t.now<t.cs.length)(h:c.ws=w ++[v]):last (setCur t c)=v:=by
 unfold last;rw[cur_set hn,h];exact snoc_getZ _ _
theorem drop_set{c:Co}{w a:List Int}{n:Nat}(hn:t.now<t.cs.length)(h:c.ws=w ++a)(ha:a.length=n):drop n (setCur t c)=setCur t {c with ws:=w}:=by
 unfold drop;rw[cur_set hn,set_set,h,←ha,snoc_take]
theorem Ok.next(h:Ok M T t ch)(a:At M T t fs0 ws0 q p st hh loc op){p':Nat}{st':List Int}{h1 h2:List Bool}{loc' op':List Int}(hT:T q (p':Int)=some (st',h2))(hle:Le h2 h1)(hl:Loc (gsOf t) (unt M q).locals h1 loc')(ht:Typs (gsOf t) st' op'){ws:List Int}(hws:ws=ws0 ++(loc' ++op'))(hlen:ws.length≤400):
  Ok M T (setCur t (thr (cur t) fs0 ⟨q,p',ws0.length⟩ ws)) ch:=by
 subst hws;have hlens:=h.lens _ h.nowlt;rw[←cur_co]at hlens;refine h.put rfl rfl ?_ ?_ ⟨hlen,?_⟩
 ·show bot (fs0 ++[_])=bot (cur t).fr;rw[a.fr];exact bot_snoc _ _ _ rfl
 ·exact a.under.stk ⟨a.hq,st',h2,loc',op',by rw[List.append_nil];exact hT,rfl,hl.le hle,ht⟩
 ·have:=hlens.2;rw[a.fr]at this;show(fs0 ++[_]).length≤40;simpa using this
def Res{ν:Type}(M:Mdl)(T:Nat→Int→Option Shape)(K:ν→Prop)(r:Tk×ν):Prop:=(r.1.st=5∨r.1.st=4∨∃ch',Ok M T r.1 ch')∧K r.2
variable{ν:Type}{V:Env ν}{K:ν→Prop}(hV:EnvOk V M K)
include hV
theorem trap_res{n:Int}{s:Tk×ν}(hK:K s.2):Res M T K (trap V n s):=by
 unfold trap
 split
 ·rename_i h;exact⟨.inl h,hK⟩
 ·exact⟨.inl rfl,hV.tell _ _ hK⟩
theorem push_res{c:Co}{v:Int}{s:ν}(hn:t.now<t.cs.length)(hK:K s)(h:c.ws.length+1≤400→∃ch',Ok M T (setCur t {c with ws:=c.ws ++[v]}) ch')(hl:c.ws.length≤400):Res M T K (push V v (setCur t c,s)):=by
 unfold push;simp only[cur_set hn,set_set]
 split
 ·exact trap_res hV hK
 ·exact⟨.inr (.inr (h (by omega))),hK⟩
end
structure Here(M:Mdl)(T:Nat→Int→Option Shape)(q p:Nat)(i:Ins)(st:List Int)(hh:List Bool)(st':List Int)(h':List Bool):Prop where
 lt:p<(unt M q).code.length
 ins:(unt M q).code.getD p default=i
 does:Does M (unt M q) i st hh st' h'
 next:∀x∈nexts i (p:Int),0≤x∧∃h2,T q x=some (st',h2)∧Le h2 h'
 ok:InsOk M (unt M q) i
 in64:In64 i.n∧In64 i.a
 inst:instr M (unt M q) i=0
theorem At.here{M:Mdl}{T:Nat→Int→Option Shape}(hC:Certs M T){t:Tk}{fs0:List Fr}{ws0:List Int}{q p:Nat}{st:List Int}{hh:List Bool}{loc op:List Int}(a:At M T t fs0 ws0 q p st hh loc op):∃st' h',Here M T q p (insT M t) st hh st' h':=by
 have hc:=hC.cert q a.hq;have hr:=hc.rng _ _ a.hT;have hf:=hc.fits _ _ a.hT;have hi:insT M t=(unt M q).code.getD p default:=by unfold insT;rw[a.top]
 have hlt:p<(unt M q).code.length:=by omega
 have hm:(unt M q).code.getD p default∈(unt M q).code:=Opt.mem_at hlt;have hu:unt M q∈M.units:=by
  unfold unt;rw[List.getD_eq_getElem?_getD,List.getElem?_eq_getElem a.hq];exact List.getElem_mem _
 have hio:=instr_ok ((hC.form.units _ hu).2 _ hm);have e:Ver.ins (unt M q) (p:Int)=(unt M q).code.getD p default:=rfl;refine⟨(sem M (unt M q) (insT M t) (st,hh)).stack,(sem M (unt M q) (insT M t) (st,hh)).has,hlt,hi.symm,?_,fun x hx=>?_,by rw[hi];exact hio,by rw[hi];exact hC.in64 q a.hq _ hm,by rw[hi];exact(hC.form.units _ hu).2 _ hm⟩
 ·refine sem_does ?_ ?_
  ·rw[hi];exact hio.op
  ·rw[hi,←e];exact hf.ok
 ·have hn:=hf.next x (by rw[e,←hi];exact hx);rw[e,←hi]at hn;obtain⟨h2,g1,g2⟩:=hn;exact⟨(hc.rng _ _ g1).1,h2,g1,g2⟩
section
variable{M:Mdl}{T:Nat→Int→Option Shape}{t:Tk}{ch:List Nat}{fs0:List Fr}{ws0:List Int}{q p:Nat}{st:List Int}{hh:List Bool}{loc op:List Int}{i:Ins}{st':List Int}{h':List Bool}
variable{ν:Type}{V:Env ν}{K:ν→Prop}(hV:EnvOk V M K)(hok:Ok M T t ch)(a:At M T t fs0 ws0 q p st hh loc op)(hr:Here M T q p i st hh st' h')
include hok a
theorem wslen:ws0.length+(loc.length+op.length)≤400:=by
 have:=(hok.lens _ hok.nowlt).1;rw[←cur_co,a.ws]at this;simpa using this
include hr
theorem on(h1:i.op≠21)(h3:i.op≠24)(h4:i.op≠25):∃h2,T q ((p+1:Nat):Int)=some (st',h2)∧Le h2 h':=by
 have:=hr.next ((p:Int)+1) (by
  unfold nexts;rw[if_neg h1]
  split
  ·simp
  ·rw[if_neg (by omega)];simp)
 exact this.2
theorem goes(h1:i.op≠21)(h3:i.op≠24)(h4:i.op≠25){loc' op' ws:List Int}(hl:Loc (gsOf t) (unt M q).locals h' loc')(ht:Typs (gsOf t) st' op')(hws:ws=ws0 ++(loc' ++op'))(hlen:ws.length≤400):
  Ok M T (setCur t (thr (cur t) fs0 ⟨q,p+1,ws0.length⟩ ws)) ch:=by
 obtain⟨h2,g1,g2⟩:=on hok a hr h1 h3 h4;exact hok.next a g1 g2 hl ht hws hlen
include hV
theorem pushes(h1:i.op≠21)(h3:i.op≠24)(h4:i.op≠25){op1:List Int}{s1:List Int}{ty v:Int}(he:st'=s1 ++[ty])(ht:Typs (gsOf t) s1 op1)(hv:vOk (gsOf t) ty v)(hl:Loc (gsOf t) (unt M q).locals h' loc){s:ν}(hK:K s)(hlen:op1.length≤op.length):
  Res M T K (push V v (setCur t (thr (cur t) fs0 ⟨q,p+1,ws0.length⟩ (ws0 ++(loc ++op1))),s)):=by
 have hw:=wslen hok a;refine push_res hV hok.nowlt hK (fun hlt=>⟨ch,?_⟩) (by show(ws0 ++(loc ++op1)).length≤400;simp;omega);refine goes hok a hr h1 h3 h4 hl (he▸ht.app (Typs.one hv)) ?_ (by simpa using hlt);show ws0 ++(loc ++op1) ++[v]=_;simp
end
theorem wrap_in64(a:Int):In64 (IntKind.i64.wrap a):=by
 unfold In64 IntKind.wrap;simp[IntKind.bits,IntKind.signed];omega
theorem yes_in64(b:Bool):In64 (yes b):=by cases b<;>(unfold In64 yes;omega)
theorem two2_in64{op a b:Int}(ha:In64 a)(hb:In64 b)(h0:op=11∨op=12→b≠0):In64 (two2 op a b):=by
 unfold two2
 repeat' split
 all_goals first|exact wrap_in64 _|exact yes_in64 _|exact ha|(unfold In64;omega)|skip
 ·have h1:=Int.natAbs_tmod a b;have h2:a.natAbs % b.natAbs<b.natAbs:=Nat.mod_lt _ (by have:=h0 (by omega);omega);unfold In64 at *;omega
 all_goals (unfold bits;exact wrap_in64 _)
theorem topF_thr(c:Co)(fs0:List Fr)(f:Fr)(ws:List Int):topF (thr c fs0 f ws)=f:=snoc_get _ _
theorem two2_vOk{gs:List Nat}{o x y:Int}(ho:8≤o∧o≤20)(hx:In64 x)(hy:In64 y)(h0:o=11∨o=12→y≠0)(hb:18<o→(x=0∨x=1)∧(y=0∨y=1)):vOk gs (if 12<o then 2 else 1) (two2 o x y):=by
 have h64:In64 (two2 o x y):=two2_in64 hx hy h0
 split
 ·exact vOk.truth (two2_truth (by assumption) ho.2 hb)
 ·exact vOk.num h64
theorem getD_mid{a b c:List Int}{k:Nat}(h:k<b.length):(a ++(b ++c)).getD (a.length+k) 0=b.getD k 0:=by
 rw[List.getD_eq_getElem?_getD,List.getElem?_append_right (by omega),Nat.add_sub_cancel_left,List.getElem?_append_left h,List.getD_eq_getElem?_getD]
theorem set_mid{a b c:List Int}{k:Nat}{v:Int}(h:k<b.length):(a ++(b ++c)).set (a.length+k) v=a ++(b.set k v ++c):=by
 rw[List.set_append_right _ _ (by omega),Nat.add_sub_cancel_left,List.set_append_left _ _ h]
section
variable{M:Mdl}{T:Nat→Int→Option Shape}{t:Tk}{ch:List Nat}{fs0:List Fr}{ws0:List Int}{q p:Nat}{st:List Int}{hh:List Bool}{loc op:List Int}{i:Ins}{st':List Int}{h':List Bool}
variable{ν:Type}{V:Env ν}{K:ν→Prop}(hC:Certs M T)(hV:EnvOk V M K)(hok:Ok M T t ch)(a:At M T t fs0 ws0 q p st hh loc op)(hr:Here M T q p i st hh st' h'){s:ν}(hK:K s)
include hC hV hok a hr hK
theorem exec_push(ho:i.op=1∨i.op=2∨i.op=3):Res M T K (exec V M i (setPc (p+1) t,s)):=by
 have hn:=hok.nowlt;rw[a.pc];have hlen:=a.loc.len;unfold exec;simp only[cur_set hn,topF_thr];rcases ho with ho|ho|ho
 ·rw[if_pos ho]
  cases hr.does with
  |const _ _ hi=>
   refine pushes hV hok a hr (by omega) (by omega) (by omega) rfl a.op ?_ a.loc hK (Nat.le_refl _);rw[ho];exact vOk.num hr.in64.1
  |_=>exfalso;omega
 ·rw[if_neg (by omega),if_pos ho];have htr:=truth_in hr.inst ho
  cases hr.does with
  |const _ _ hi=>
   refine pushes hV hok a hr (by omega) (by omega) (by omega) rfl a.op ?_ a.loc hK (Nat.le_refl _);rw[ho];exact vOk.truth htr
  |_=>exfalso;omega
 ·rw[if_neg (by omega),if_neg (by omega),if_pos ho];have hlo:=hr.ok.loc (.inl ho)
  cases hr.does with
  |load _ _ hi hx=>
   refine pushes hV hok a hr (by omega) (by omega) (by omega) rfl a.op ?_ a.loc hK (Nat.le_refl _);show vOk _ _ ((ws0 ++(loc ++op)).getD (ws0.length+i.a.toNat) 0);rw[getD_mid (by omega)];exact a.loc.ok _ (by omega) hx
  |_=>exfalso;omega
omit hV hK in
theorem pop1(f:Fr){op1:List Int}{v:Int}(e:op=op1 ++[v]):last (setCur t (thr (cur t) fs0 f (ws0 ++(loc ++op))))=v∧drop 1 (setCur t (thr (cur t) fs0 f (ws0 ++(loc ++op))))=setCur t (thr (cur t) fs0 f (ws0 ++(loc ++op1))):=by
 have hw:(thr (cur t) fs0 f (ws0 ++(loc ++op))).ws=(ws0 ++(loc ++op1)) ++[v]:=by
  show ws0 ++(loc ++op)=_;rw[e];simp
 exact⟨last_set hok.nowlt hw,drop_set hok.nowlt hw rfl⟩
theorem exec_pop(ho:i.op=4∨i.op=5∨i.op=6∨i.op=7∨i.op=22∨i.op=26∨i.op=28)(hw:i.op=26→V.full s i.a.toNat=false):Res M T K (exec V M i (setPc (p+1) t,s)):=by
 have hn:=hok.nowlt;rw[a.pc];have hlen:=a.loc.len;have hwl:=wslen hok a;have key:∀{s1:List Int} {ty:Int},st=s1 ++[ty]→∃op1 v,op=op1 ++[v]∧Typs (gsOf t) s1 op1∧vOk (gsOf t) ty v:=fun{s1 ty} e=>by
  have ht:=a.op;rw[e]at ht;obtain⟨x,y,e1,g1,g2⟩:=ht.split;obtain⟨v,rfl,hv⟩:=g2.un1;exact⟨x,v,e1,g1,hv⟩
 have hio:=hr.ok;unfold exec;rcases ho with ho|ho|ho|ho|ho|ho|ho
 ·rw[if_neg (by omega),if_neg (by omega),if_neg (by omega),if_pos ho];have hlo:=hio.loc (.inr ho);have hgo:=fun{loc' op' ws}=>goes hok a hr (loc':=loc') (op':=op') (ws:=ws) (by omega) (by omega) (by omega)
  cases hr.does with
  |store s1 h1 hi=>
   obtain⟨op1,v,e1,g1,g2⟩:=key rfl;obtain⟨hl,hd⟩:=pop1 hC hok a hr ⟨q,p+1,ws0.length⟩ e1;simp only[hl,hd,cur_set hn,set_set,topF_thr];refine⟨.inr (.inr ⟨ch,?_⟩),hK⟩;refine hgo (loc':=loc.set i.a.toNat v) (op':=op1) (a.loc.put (by omega) g2) g1 (set_mid (by omega)) ?_;show((ws0 ++(loc ++op1)).set _ v).length≤400;rw[e1]at hwl;simp at hwl⊢;omega
  |_=>exfalso;omega
 ·rw[if_neg (by omega),if_neg (by omega),if_neg (by omega),if_neg (by omega),if_pos ho];have hgo:=fun{loc' op' ws}=>goes hok a hr (loc':=loc') (op':=op') (ws:=ws) (by omega) (by omega) (by omega)
  cases hr.does with
  |drop s1 h1 ty hi=>
   obtain⟨op1,v,e1,g1,g2⟩:=key rfl;obtain⟨hl,hd⟩:=pop1 hC hok a hr ⟨q,p+1,ws0.length⟩ e1;simp only[hd];rw[e1]at hwl;exact⟨.inr (.inr ⟨ch,hgo a.loc g1 rfl (by simp at hwl⊢;omega)⟩),hK⟩
  |_=>exfalso;omega
 ·rw[if_neg (by omega),if_neg (by omega),if_neg (by omega),if_neg (by omega),if_neg (by omega),if_pos ho];have hpu:=fun{op1 s1 ty v}=>pushes hV hok a hr (by omega) (by omega) (by omega) (op1:=op1) (s1:=s1) (ty:=ty) (v:=v)
  cases hr.does with
  |neg s1 h1 hi=>
   obtain⟨op1,v,e1,g1,g2⟩:=key rfl;obtain⟨hl,hd⟩:=pop1 hC hok a hr ⟨q,p+1,ws0.length⟩ e1;simp only[hl,hd];exact hpu rfl g1 (vOk.num (wrap_in64 _)) a.loc hK (by rw[e1];simp)
  |_=>exfalso;omega
 ·rw[if_neg (by omega),if_neg (by omega),if_neg (by omega),if_neg (by omega),if_neg (by omega),if_neg (by omega),if_pos ho];have hpu:=fun{op1 s1 ty v}=>pushes hV hok a hr (by omega) (by omega) (by omega) (op1:=op1) (s1:=s1) (ty:=ty) (v:=v)
  cases hr.does with
  |not s1 h1 hi=>
   obtain⟨op1,v,e1,g1,g2⟩:=key rfl;obtain⟨hl,hd⟩:=pop1 hC hok a hr ⟨q,p+1,ws0.length⟩ e1;simp only[hl,hd];refine hpu rfl g1 (vOk.truth ?_) a.loc hK (by rw[e1];simp);rcases g2.2.1 rfl with h|h<;>rw[h]<;>decide
  |_=>exfalso;omega
 ·rw[if_neg (by omega),if_neg (by omega),if_neg (by omega),if_neg (by omega),if_neg (by omega),if_neg (by omega),if_neg (by omega),if_neg (by omega),if_neg (by omega),if_pos ho];have hgo:=fun{loc' op' ws}=>goes hok a hr (loc':=loc') (op':=op') (ws:=ws) (by omega) (by omega) (by omega)
  have hnx:=hr.next i.a (by unfold nexts;rw[if_neg (by omega),if_pos ho];simp)
  cases hr.does with
  |els s1 h1 hi=>
   obtain⟨op1,v,e1,g1,g2⟩:=key rfl;obtain⟨hl,hd⟩:=pop1 hC hok a hr ⟨q,p+1,ws0.length⟩ e1;simp only[hl,hd];rw[e1]at hwl
   split
   ·obtain⟨h0,h2,k1,k2⟩:=hnx;refine⟨.inr (.inr ⟨ch,?_⟩),hK⟩;have e:setPc i.a.toNat (setCur t (thr (cur t) fs0 ⟨q,p+1,ws0.length⟩ (ws0 ++(loc ++op1))))=setCur t (thr (cur t) fs0 ⟨q,i.a.toNat,ws0.length⟩ (ws0 ++(loc ++op1))):=by
     unfold setPc;rw[cur_set hn,set_set,topF_thr];unfold setTop thr;rw[snoc_set]
    rw[e];have hc:((i.a.toNat:Nat):Int)=i.a:=by omega
    exact hok.next a (by rw[hc];exact k1) k2 a.loc g1 rfl (by simp at hwl⊢;omega)
   ·exact⟨.inr (.inr ⟨ch,hgo a.loc g1 rfl (by simp at hwl⊢;omega)⟩),hK⟩
  |_=>exfalso;omega
 ·rw[if_neg (by omega),if_neg (by omega),if_neg (by omega),if_neg (by omega),if_neg (by omega),if_neg (by omega),if_neg (by omega),if_neg (by omega),if_neg (by omega),if_neg (by omega),if_pos ho];have hgo:=fun{loc' op' ws}=>goes hok a hr (loc':=loc') (op':=op') (ws:=ws) (by omega) (by omega) (by omega)
  have hb:=hio.box (.inl ho)
  cases hr.does with
  |send s1 h1 hi=>
   obtain⟨op1,v,e1,g1,g2⟩:=key rfl;obtain⟨hl,hd⟩:=pop1 hC hok a hr ⟨q,p+1,ws0.length⟩ e1;simp only[hl,hd];rw[e1]at hwl;exact⟨.inr (.inr ⟨ch,hgo a.loc g1 rfl (by simp at hwl⊢;omega)⟩),hV.tell _ _ (hV.put s i.a.toNat v hK (by omega) (hw ho) g2.1 g2.2.1)⟩
  |_=>exfalso;omega
 ·rw[if_neg (by omega),if_neg (by omega),if_neg (by omega),if_neg (by omega),if_neg (by omega),if_neg (by omega),if_neg (by omega),if_neg (by omega),if_neg (by omega),if_neg (by omega),if_neg (by omega),if_neg (by omega),if_pos ho];have hgo:=fun{loc' op' ws}=>goes hok a hr (loc':=loc') (op':=op') (ws:=ws) (by omega) (by omega) (by omega)
  cases hr.does with
  |out s1 h1 ty hi=>
   obtain⟨op1,v,e1,g1,g2⟩:=key rfl;obtain⟨hl,hd⟩:=pop1 hC hok a hr ⟨q,p+1,ws0.length⟩ e1;simp only[hl,hd];rw[e1]at hwl;have h:=hgo a.loc g1 rfl (by simp at hwl⊢;omega);exact⟨.inr (.inr ⟨ch,⟨h.now,h.few,h.nodup,h.mem,h.going,h.chain,h.root,h.top,h.wait,h.fresh,h.held,h.lens,h.kinds,h.sts⟩⟩),hV.tell _ _ hK⟩
  |_=>exfalso;omega
theorem exec_two(ho:8≤i.op∧i.op≤20):Res M T K (exec V M i (setPc (p+1) t,s)):=by
 have hn:=hok.nowlt;rw[a.pc];have hpu:=fun{op1 s1 ty v}=>pushes hV hok a hr (by omega) (by omega) (by omega) (op1:=op1) (s1:=s1) (ty:=ty) (v:=v)
 have key:∃s1 t1 t2 t3,st=s1 ++[t1,t2]∧st'=s1 ++[t3]∧h'=hh∧(18<i.op→t1=2∧t2=2)∧t3=if 12<i.op then 2 else 1:=by
  cases hr.does with
  |arith s1 h hi=>exact⟨s1,1,1,1,rfl,rfl,rfl,by omega,by rw[if_neg (by omega)]⟩
  |eq s1 h ty hi ht=>exact⟨s1,ty,ty,2,rfl,rfl,rfl,by omega,by rw[if_pos (by omega)]⟩
  |cmp s1 h hi=>exact⟨s1,1,1,2,rfl,rfl,rfl,by omega,by rw[if_pos (by omega)]⟩
  |logic s1 h hi=>exact⟨s1,2,2,2,rfl,rfl,rfl,fun _=>⟨rfl,rfl⟩,by rw[if_pos (by omega)]⟩
  |_=>exfalso;omega
 obtain⟨s1,t1,t2,t3,k1,k2,k3,k4,k5⟩:=key;have ht:=a.op;rw[k1]at ht;obtain⟨op1,y,e1,g1,g2⟩:=ht.split;obtain⟨x,y,rfl,hx,hy⟩:=g2.un2;obtain⟨l1,d1⟩:=pop1 hC hok a hr ⟨q,p+1,ws0.length⟩ (op1:=op1 ++[x]) (v:=y) (by rw[e1];simp);have hw2:(thr (cur t) fs0 ⟨q,p+1,ws0.length⟩ (ws0 ++(loc ++(op1 ++[x])))).ws=(ws0 ++(loc ++op1)) ++[x]:=by
  show ws0 ++(loc ++(op1 ++[x]))=_;simp
 have l2:=last_set hn hw2;have d2:=drop_set hn hw2 (n:=1) rfl;unfold exec;rw[if_neg (by omega),if_neg (by omega),if_neg (by omega),if_neg (by omega),if_neg (by omega),if_neg (by omega),if_neg (by omega),if_pos ho];simp only[l1,d1,l2,d2]
 split
 ·exact trap_res hV hK
 ·rename_i hz
  refine hpu (op1:=op1) (ty:=t3) k2 g1 ?_ (by rw[k3];exact a.loc) hK (by rw[e1];simp);rw[k5];exact two2_vOk ho hx.1 hy.1 (fun h h0=>hz ⟨h,h0⟩) (fun h=>by
   obtain⟨q1,q2⟩:=k4 h;exact⟨hx.2.1 q1,hy.2.1 q2⟩)
theorem exec_more(ho:i.op=21∨i.op=27)(hw:i.op=27→V.empty s i.a.toNat=false):Res M T K (exec V M i (setPc (p+1) t,s)):=by
 have hn:=hok.nowlt;rw[a.pc];have hwl:=wslen hok a;unfold exec;rcases ho with ho|ho
 ·rw[if_neg (by omega),if_neg (by omega),if_neg (by omega),if_neg (by omega),if_neg (by omega),if_neg (by omega),if_neg (by omega),if_neg (by omega),if_pos ho];have hnx:=hr.next i.a (by unfold nexts;rw[if_pos ho];simp)
  cases hr.does with
  |jump s1 h1 hi=>
   obtain⟨h0,h2,k1,k2⟩:=hnx;refine⟨.inr (.inr ⟨ch,?_⟩),hK⟩;have e:setPc i.a.toNat (setCur t (thr (cur t) fs0 ⟨q,p+1,ws0.length⟩ (ws0 ++(loc ++op))))=setCur t (thr (cur t) fs0 ⟨q,i.a.toNat,ws0.length⟩ (ws0 ++(loc ++op))):=by
    unfold setPc;rw[cur_set hn,set_set,topF_thr];unfold setTop thr;rw[snoc_set]
   show Ok M T (setPc _ _) ch;rw[e];have hc:((i.a.toNat:Nat):Int)=i.a:=by omega
   exact hok.next a (by rw[hc];exact k1) k2 a.loc a.op rfl (by simp;omega)
  |_=>exfalso;omega
 ·rw[if_neg (by omega),if_neg (by omega),if_neg (by omega),if_neg (by omega),if_neg (by omega),if_neg (by omega),if_neg (by omega),if_neg (by omega),if_neg (by omega),if_neg (by omega),if_neg (by omega),if_pos ho];have hb:=hr.ok.box (.inr ho);have htk:=hV.take s i.a.toNat hK (by omega) (hw ho);have hbt:plain (M.boxes.getD i.a.toNat default).1=true:=by
   have hm:M.boxes.getD i.a.toNat default∈M.boxes:=by
    rw[List.getD_eq_getElem?_getD,List.getElem?_eq_getElem (by omega)];exact List.getElem_mem _
   exact(hC.form.boxes _ hm).1
  have hbt':(M.boxes.getD i.a.toNat default).1<10:=by
   unfold plain at hbt;rw[Bool.or_eq_true,decide_eq_true_eq,decide_eq_true_eq]at hbt;omega
  have hpu:=fun{op1 s1 ty v}=>pushes hV hok a hr (by omega) (by omega) (by omega) (op1:=op1) (s1:=s1) (ty:=ty) (v:=v)
  cases hr.does with
  |recv s1 h1 hi=>exact hpu rfl a.op ⟨htk.2.1,htk.2.2,fun h=>by omega⟩ a.loc (hV.tell _ _ htk.1) (Nat.le_refl _)
  |_=>exfalso;omega
end
end Go.Proofs.Ytgnhfinabhimpaa.Vm
