/- Functions of package slices, walked. -/
import Derived.Test.YtjehflelkpacfaaGreatM12
set_option linter.unusedVariables false
set_option linter.unusedSimpArgs false
set_option linter.unusedSectionVars false
set_option maxRecDepth 100000
namespace Go.Proofs.YtjehflelkpacfaaGreat.Vw
open Go.RowKit Go.Proofs.YtjehflelkpacfaaGreat.Img
section
attribute [local irreducible] Run Cod End OpT Still RunQ RunS RunT Fn PutOk
theorem indexFuncI_is(ao:Option Addr)(n cap:Nat)(l:List Int)(hn:l.length=n)(hm:n≤9223372036854775807)(f:FuncId)(cp:List Value)(r:Chunk)(hr:r.excl=false)(pre:List Chunk)(hpx:∀c∈pre,c.excl=true)(p:Int→Bool)(hc:callB Tryz.prog f=true)
  (hf:∀x∈l,Fn Tryz.prog f (#[.int .i64 x] ++cp.toArray) [r] pre (σ:=Unit) (fun _=>True) (fun _=> .bool (p x)) (fun _=>pre)):
  Fn Tryz.prog 100 #[.slice ao n cap, .func (.func f) #[] cp.toArray] [rd ao n cap i64c l,r] pre (fun s:Int=>decide (0≤s)=l.any p) (fun s=> .int .i64 s) (fun _=>pre):=by
 refine Fn.enter (args:=[.slice ao n cap, .func (.func f) #[] cp.toArray]) Tryz.func100 rfl _ Tryz.ntmps100 rfl (by simp[rd_excl,hr]) (fun w S=>?_);(refine Jn ?_)
 repeat(refine Jy ?_;try first|intro ao cap|intro b)
 apply Cod.loop (σ:=Nat) (fun k=>k≤n∧∀j,j<k→p (l.getD j default)=false) (fun k=>[(0, .slice ao n cap),(1, .func (.func f) #[] cp.toArray),(7, .int .i64 (n:Int)),(8, .int .i64 (k:Int))]) (fun _=>old w S::rd ao n cap i64c l::r::pre) (fun k=>n-k) 0
 rotate_left
 exact sb;exact Takes.all _;intro k hs K hK;obtain⟨hk,hfn⟩:=hs
 rotate_left
 exact⟨by omega,fun j hj=>by omega⟩;simp only[List.append_nil]
 repeat(refine Jy ?_;try first|intro ao cap|intro b)
 by_cases h:k<n
 ·have hx:l.getD k default∈l:=by
   rw[Jd,Je (by omega:k<l.length)];exact List.getElem_mem _
  repeat(refine Jy ?_;try first|intro ao cap|intro b)
  refine Run.op (by exact rfl) (OpT.call (hx:=by exact rfl) (hv:=evz) (hc:=hc) (hd:=by exact rfl) (spec:=hf _ hx) (t:= .skip (.skip (.skip (.all _)))) (r:=fun w=> .any tk hr .nil) (k:=?_));intro s hs
  cases hp:p (l.getD k default)with
  |true=>
   repeat(refine Jy ?_;try first|intro ao cap|intro b)
   refine End.done1 (k:Int) (by exact rfl) (by exact rfl) rfl ?_ hpx .back1;have:l.any p=true:=List.any_eq_true.2 ⟨_,hx,hp⟩;rw[this];simp
  |false=>
   repeat(refine Jy ?_;try first|intro ao cap|intro b)
   refine End.round hK (k+1) ⟨by omega,fun j hj=>?_⟩ (by omega) sb .back
   by_cases hjk:j=k
   ·subst hjk;exact hp
   ·exact hfn j (by omega)
 ·repeat(refine Jy ?_;try first|intro ao cap|intro b)
  refine End.done1 (-1:Int) (by exact rfl) (by exact rfl) rfl ?_ hpx (.cons .head (.skip (.skip (.all _))));have:l.any p=false:=by
   rw[List.any_eq_false];intro x hx;obtain⟨j,hj,rfl⟩:=List.getElem_of_mem hx;have:=hfn j (by omega);rw[Jd,Je hj]at this;simpa using this
  rw[this];rfl
theorem containsFuncI_is(ao:Option Addr)(n cap:Nat)(l:List Int)(hn:l.length=n)(hm:n≤9223372036854775807)(f:FuncId)(cp:List Value)(r:Chunk)(hr:r.excl=false)(pre:List Chunk)(hpx:∀c∈pre,c.excl=true)(p:Int→Bool)(hc:callB Tryz.prog f=true)
  (hf:∀x∈l,Fn Tryz.prog f (#[.int .i64 x] ++cp.toArray) [r] pre (σ:=Unit) (fun _=>True) (fun _=> .bool (p x)) (fun _=>pre)):
  Fn Tryz.prog 68 #[.slice ao n cap, .func (.func f) #[] cp.toArray] [rd ao n cap i64c l,r] pre (σ:=Unit) (fun _=>True) (fun _=> .bool (l.any p)) (fun _=>pre):=by
 refine Fn.enter (args:=[.slice ao n cap, .func (.func f) #[] cp.toArray]) Tryz.func68 rfl _ Tryz.ntmps68 rfl (by simp[rd_excl,hr]) (fun w S=>?_);(refine Jn ?_)
 repeat(refine Jy ?_;try first|intro ao cap|intro b)
 refine Run.op (by exact rfl) (OpT.call0 (hx:=by exact rfl) (hv:=evz) (hc:=by kernel_rfl) (hd:=by exact rfl) (spec:=indexFuncI_is ao n cap l hn hm f cp r hr pre hpx p hc hf) (t:= .skip (.skip (.skip (.all _)))) (r:=fun w=> .rd tk (.any tk hr .nil)) (k:=?_));intro s hs
 repeat(refine Jy ?_;try first|intro ao cap|intro b)
 exact End.done1 () (by exact rfl) (by exact rfl) (bool_eq hs) trivial hpx .back1
theorem indexFuncN_is(ao:Option Addr)(n cap:Nat)(l:List ImgM.Ins)(hn:l.length=n)(hm:n≤9223372036854775807)(f:FuncId)(cp:List Value)(r:Chunk)(hr:r.excl=false)(pre:List Chunk)(hpx:∀c∈pre,c.excl=true)(p:ImgM.Ins→Bool)(hc:callB Tryz.prog f=true)
  (hf:∀x∈l,Fn Tryz.prog f (#[.agg (insC x).toArray] ++cp.toArray) [r] pre (σ:=Unit) (fun _=>True) (fun _=> .bool (p x)) (fun _=>pre)):
  Fn Tryz.prog 102 #[.slice ao n cap, .func (.func f) #[] cp.toArray] [rd ao n cap insC l,r] pre (fun s:Int=>decide (0≤s)=l.any p) (fun s=> .int .i64 s) (fun _=>pre):=by
 refine Fn.enter (args:=[.slice ao n cap, .func (.func f) #[] cp.toArray]) Tryz.func102 rfl _ Tryz.ntmps102 rfl (by simp[rd_excl,hr]) (fun w S=>?_);(refine Jn ?_)
 repeat(refine Jy ?_;try first|intro ao cap|intro b)
 apply Cod.loop (σ:=Nat) (fun k=>k≤n∧∀j,j<k→p (l.getD j default)=false) (fun k=>[(0, .slice ao n cap),(1, .func (.func f) #[] cp.toArray),(7, .int .i64 (n:Int)),(8, .int .i64 (k:Int))]) (fun _=>old w S::rd ao n cap insC l::r::pre) (fun k=>n-k) 0
 rotate_left
 exact sb;exact Takes.all _;intro k hs K hK;obtain⟨hk,hfn⟩:=hs
 rotate_left
 exact⟨by omega,fun j hj=>by omega⟩;simp only[List.append_nil]
 repeat(refine Jy ?_;try first|intro ao cap|intro b)
 by_cases h:k<n
 ·have hx:l.getD k default∈l:=by
   rw[Jd,Je (by omega:k<l.length)];exact List.getElem_mem _
  repeat(refine Jy ?_;try first|intro ao cap|intro b)
  refine Run.op (by exact rfl) (OpT.call (hx:=by exact rfl) (hv:=evz) (hc:=hc) (hd:=by exact rfl) (spec:=hf _ hx) (t:= .skip (.skip (.skip (.all _)))) (r:=fun w=> .any tk hr .nil) (k:=?_));intro s hs
  cases hp:p (l.getD k default)with
  |true=>
   repeat(refine Jy ?_;try first|intro ao cap|intro b)
   refine End.done1 (k:Int) (by exact rfl) (by exact rfl) rfl ?_ hpx .back1;have:l.any p=true:=List.any_eq_true.2 ⟨_,hx,hp⟩;rw[this];simp
  |false=>
   repeat(refine Jy ?_;try first|intro ao cap|intro b)
   refine End.round hK (k+1) ⟨by omega,fun j hj=>?_⟩ (by omega) sb .back
   by_cases hjk:j=k
   ·subst hjk;exact hp
   ·exact hfn j (by omega)
 ·repeat(refine Jy ?_;try first|intro ao cap|intro b)
  refine End.done1 (-1:Int) (by exact rfl) (by exact rfl) rfl ?_ hpx (.cons .head (.skip (.skip (.all _))));have:l.any p=false:=by
   rw[List.any_eq_false];intro x hx;obtain⟨j,hj,rfl⟩:=List.getElem_of_mem hx;have:=hfn j (by omega);rw[Jd,Je hj]at this;simpa using this
  rw[this];rfl
theorem containsFuncN_is(ao:Option Addr)(n cap:Nat)(l:List ImgM.Ins)(hn:l.length=n)(hm:n≤9223372036854775807)(f:FuncId)(cp:List Value)(r:Chunk)(hr:r.excl=false)(pre:List Chunk)(hpx:∀c∈pre,c.excl=true)(p:ImgM.Ins→Bool)(hc:callB Tryz.prog f=true)
  (hf:∀x∈l,Fn Tryz.prog f (#[.agg (insC x).toArray] ++cp.toArray) [r] pre (σ:=Unit) (fun _=>True) (fun _=> .bool (p x)) (fun _=>pre)):
  Fn Tryz.prog 71 #[.slice ao n cap, .func (.func f) #[] cp.toArray] [rd ao n cap insC l,r] pre (σ:=Unit) (fun _=>True) (fun _=> .bool (l.any p)) (fun _=>pre):=by
 refine Fn.enter (args:=[.slice ao n cap, .func (.func f) #[] cp.toArray]) Tryz.func71 rfl _ Tryz.ntmps71 rfl (by simp[rd_excl,hr]) (fun w S=>?_);(refine Jn ?_)
 repeat(refine Jy ?_;try first|intro ao cap|intro b)
 refine Run.op (by exact rfl) (OpT.call0 (hx:=by exact rfl) (hv:=evz) (hc:=by kernel_rfl) (hd:=by exact rfl) (spec:=indexFuncN_is ao n cap l hn hm f cp r hr pre hpx p hc hf) (t:= .skip (.skip (.skip (.all _)))) (r:=fun w=> .rd tk (.any tk hr .nil)) (k:=?_));intro s hs
 repeat(refine Jy ?_;try first|intro ao cap|intro b)
 exact End.done1 () (by exact rfl) (by exact rfl) (bool_eq hs) trivial hpx .back1
theorem index_is(ao:Option Addr)(n cap:Nat)(l:List Int)(hn:l.length=n)(hm:n≤9223372036854775807)(v:Int):
  Fn Tryz.prog 110 #[.slice ao n cap, .int .i64 v] [rd ao n cap i64c l] [] (fun s:Int=>decide (0≤s)=decide (v∈l)) (fun s=> .int .i64 s) (fun _=>[]):=by
 refine JE [.slice ao n cap, .int .i64 v] Tryz.func110 Tryz.ntmps110 fun w S=>?_
 (refine Jn ?_)
 repeat(refine Jy ?_;try first|intro ao cap|intro b)
 apply Cod.loop (σ:=Nat) (fun k=>k≤n∧∀j,j<k→l.getD j default≠v) (fun k=>[(0, .slice ao n cap),(1, .int .i64 v),(7, .int .i64 (n:Int)),(8, .int .i64 (k:Int))]) (fun _=>[old w S,rd ao n cap i64c l]) (fun k=>n-k) 0
 rotate_left
 exact sb;exact tks;intro s hs K hK;(refine Jn ?_)
 rotate_left
 ·exact⟨by omega,fun j hj=>by omega⟩
 rename Nat=>k
 obtain⟨hk,hfn⟩:=hs
 by_cases h:k<n
 ·have hx:l.getD k default∈l:=by
   rw[Jd,Je (by omega:k<l.length)];exact List.getElem_mem _
  by_cases hv:v=l.getD k default
  ·repeat(refine Jy ?_;try first|intro ao cap|intro b)
   (refine End.done1_ ((k:Int)) (he:=Jv) (hp:=?_));rw[hv,decide_eq_true hx];simp
  ·repeat(refine Jy ?_;try first|intro ao cap|intro b)
   refine End.round_ hK (k+1) ?_ ?_
   ·refine⟨by omega,fun j hj=>?_⟩
    by_cases hjk:j=k
    ·subst hjk;exact fun h=>hv h.symm
    ·exact hfn j (by omega)
   ·omega
 ·repeat(refine Jy ?_;try first|intro ao cap|intro b)
  (refine End.done1_ ((-1:Int)) (he:=Jv) (hp:=?_));have:v∉l:=by
   intro hx;obtain⟨j,hj,rfl⟩:=List.getElem_of_mem hx;have:=hfn j (by omega);rw[Jd,Je hj]at this;simp at this
  simp[this]
theorem contains_is(ao:Option Addr)(n cap:Nat)(l:List Int)(hn:l.length=n)(hm:n≤9223372036854775807)(v:Int):
  Fn Tryz.prog 101 #[.slice ao n cap, .int .i64 v] [rd ao n cap i64c l] [] (σ:=Unit) (fun _=>True) (fun _=> .bool (decide (v∈l))) (fun _=>[]):=by
 refine JE [.slice ao n cap, .int .i64 v] Tryz.func101 Tryz.ntmps101 fun w S=>?_
 (refine Jn ?_)
 repeat(refine Jy ?_;try first|intro ao cap|intro b)
 (refine JQ (index_is ao n cap l hn hm v) ?_;intro s hs;(refine Jn ?_))
 repeat(refine Jy ?_;try first|intro ao cap|intro b)
 (refine End.done1_ (()) (he:=by exact bool_eq hs) (hp:=?_));trivial
theorem list_ext{l l':List Int}(n:Nat)(hn:l.length=n)(hm:l'.length=n)(h:∀j,j<n→l.getD j default=l'.getD j default):l=l':=
 List.ext_getElem (by omega) (fun j h1 h2=>by have:=h j (by omega);simpa[Jd,h1,h2]using this)
theorem equal_is(ao bo:Option Addr)(n m cap cap':Nat)(l l':List Int)(hn:l.length=n)(hm:l'.length=m)(hn2:n≤9223372036854775807)(hm2:m≤9223372036854775807):
  Fn Tryz.prog 93 #[.slice ao n cap, .slice bo m cap'] [rd ao n cap i64c l,rd bo m cap' i64c l'] [] (σ:=Unit) (fun _=>True) (fun _=> .bool (decide (l=l'))) (fun _=>[]):=by
 refine JE [.slice ao n cap, .slice bo m cap'] Tryz.func93 Tryz.ntmps93 fun w S=>?_
 (refine Jn ?_)
 by_cases hnm:n=m
 ·subst hnm
  repeat(refine Jy ?_;try first|intro ao cap|intro b)
  apply Cod.loop (σ:=Nat) (fun k=>k≤n∧∀j,j<k→l.getD j default=l'.getD j default) (fun k=>[(0, .slice ao n cap),(1, .slice bo n cap'),(12, .int .i64 (n:Int)),(13, .int .i64 (k:Int))]) (fun _=>[old w S,rd ao n cap i64c l,rd bo n cap' i64c l']) (fun k=>n-k) 0
  rotate_left
  exact sb;exact tks;intro s hs K hK;(refine Jn ?_)
  rotate_left
  ·exact⟨by omega,fun j hj=>by omega⟩
  rename Nat=>k
  obtain⟨hk,hfn⟩:=hs
  by_cases h:k<n
  ·by_cases hv:l.getD k default=l'.getD k default
   ·repeat(refine Jy ?_;try first|intro ao cap|intro b)
    refine End.round_ hK (k+1) ?_ ?_
    ·refine⟨by omega,fun j hj=>?_⟩
     by_cases hjk:j=k
     ·subst hjk;exact hv
     ·exact hfn j (by omega)
    ·omega
   ·repeat(refine Jy ?_;try first|intro ao cap|intro b)
    (refine End.done1_ (()) (he:=by exact bool_eq (Eq.symm (decide_eq_false (fun h=>hv (by rw[h]))))) (hp:=?_));trivial
  ·repeat(refine Jy ?_;try first|intro ao cap|intro b)
   (refine End.done1_ (()) (he:=by exact bool_eq (Eq.symm (decide_eq_true (list_ext n hn hm (fun j hj=>hfn j (by omega)))))) (hp:=?_));trivial
 ·repeat(refine Jy ?_;try first|intro ao cap|intro b)
  (refine End.done1_ (()) (he:=by exact bool_eq (Eq.symm (decide_eq_false (fun h=>hnm (by rw[←hn,←hm,h]))))) (hp:=?_));trivial
end
section
attribute [local irreducible] Run Cod End OpT Still RunQ RunS RunT Fn PutOk
theorem cloneI_is(ao:Option Addr)(n cap:Nat)(l:List Int)(hn:l.length=n)(hm:n≤1000000000):
  Fn Tryz.prog 94 #[.slice ao n cap] [rd ao n cap i64c l] [] (σ:=Option Addr×Nat) (fun _=>True) (fun s=> .slice s.1 n s.2) (fun s=>[arr s.1 n s.2 3 i64c l]):=by
 refine JE [.slice ao n cap] Tryz.func94 Tryz.ntmps94 fun w S=>?_
 (refine Jn ?_)
 cases ao with
 |none=>
  apply Cod.fact (n=0) (fun w hm=>by
   obtain⟨⟨-, -,ao',cap',he, -,h4⟩, -⟩:=rd_holds.1 (hm.has (.tail .head));rcases Nat.eq_zero_or_pos n with h|h
   ·exact h
   ·obtain⟨b,off,rfl, -⟩:=h4 h;simp at he)
  rintro rfl;obtain rfl:l=[]:=List.eq_nil_of_length_eq_zero hn
  repeat(refine Jy ?_;try first|intro ao cap|intro b)
  apply End.imp (fun w hm=>hm.nilArr 3 i64c);(refine End.done1_ ((none,0)) (he:=Jv) (hp:=?_));trivial
 |some a0=>
  repeat(refine Jy ?_;try first|intro ao cap|intro b)
  apply Run.imp (fun w hm=>hm.toArr .head ([]:List Int) rfl rfl (by unfold maxLen;simp))
  repeat(refine Jy ?_;try first|intro ao cap|intro b)
  apply Run.op (by exact rfl);refine OpT.appendS_ (k:=?_);intro ao cap;simp only[Nat.zero_add,Jk]
  repeat(refine Jy ?_;try first|intro ao cap|intro b)
  (refine End.done1_ ((_,_)) (he:=Jv) (hp:=?_));trivial
theorem cloneB_is(ao:Option Addr)(n cap:Nat)(l:List Bool)(hn:l.length=n)(hm:n≤1000000000):
  Fn Tryz.prog 95 #[.slice ao n cap] [rd ao n cap boolc l] [] (σ:=Option Addr×Nat) (fun _=>True) (fun s=> .slice s.1 n s.2) (fun s=>[arr s.1 n s.2 4 boolc l]):=by
 refine JE [.slice ao n cap] Tryz.func95 Tryz.ntmps95 fun w S=>?_
 (refine Jn ?_)
 cases ao with
 |none=>
  apply Cod.fact (n=0) (fun w hm=>by
   obtain⟨⟨-, -,ao',cap',he, -,h4⟩, -⟩:=rd_holds.1 (hm.has (.tail .head));rcases Nat.eq_zero_or_pos n with h|h
   ·exact h
   ·obtain⟨b,off,rfl, -⟩:=h4 h;simp at he)
  rintro rfl;obtain rfl:l=[]:=List.eq_nil_of_length_eq_zero hn
  repeat(refine Jy ?_;try first|intro ao cap|intro b)
  apply End.imp (fun w hm=>hm.nilArr 4 boolc);(refine End.done1_ ((none,0)) (he:=Jv) (hp:=?_));trivial
 |some a0=>
  repeat(refine Jy ?_;try first|intro ao cap|intro b)
  apply Run.imp (fun w hm=>hm.toArr .head ([]:List Bool) rfl rfl (by unfold maxLen;simp))
  repeat(refine Jy ?_;try first|intro ao cap|intro b)
  apply Run.op (by exact rfl);refine OpT.appendS_ (k:=?_);intro ao cap;simp only[Nat.zero_add,Jk]
  repeat(refine Jy ?_;try first|intro ao cap|intro b)
  (refine End.done1_ ((_,_)) (he:=Jv) (hp:=?_));trivial
abbrev up(m:ML)(k:Nat):Value:= .pointer (place (sz ucell) m.uo k 0)
abbrev insV(i:ImgM.Ins):Value:= .agg (insC i).toArray
set_option maxHeartbeats 1000000 in
theorem instr_is(cb mb:Nat)(m:ML)(k:Nat)(hk:k<m.us.length)(i:ImgM.Ins):Fn Tryz.prog 64 #[ptr cb,up m k,insV i] [md m] (ck cb mb m) (σ:=Unit) (fun _=>True) (fun _=> .int .i64 (Ver.instr m.mdl (m.us.getD k default).u i)) (fun _=>ck cb mb m):=by
 refine JE [ptr cb,up m k,insV i] Tryz.func64 Tryz.ntmps64 fun w S=>?_
 (refine Jn ?_)
 repeat' (first|(refine Jc ?_;refine OpT.call0_ (spec:=unit_is cb mb m _ _) (k:=?_);intro s hs;(refine Jn ?_))|refine Jo ?_|(refine JB ?_;intro b)|(refine JA ?_;intro ao cap)|refine goQ (k:=fun h=>?_) (k':=fun h=>?_)|fail)
 all_goals ((refine End.done1_ (()) (he:=by refine int_eq ?_;unfold Ver.instr;(first|(simp[Ver.rng,ML.mdl, *];done)|((try simp only[Ver.rng,ML.mdl]);(repeat' split);all_goals (first|rfl|omega|(simp_all;done)|(simp_all;omega))))) (hp:=?_));trivial)
end
section
attribute [local irreducible] Run Cod End OpT Still RunQ RunS RunT Fn PutOk
structure SH where
 st:List Int
 so:Option Addr
 sc:Nat
 hs:List Bool
 ho:Option Addr
 hc:Nat
instance:Inhabited SH:=⟨⟨[],none,0,[],none,0⟩⟩
def shV(x:SH):Value:= .agg #[.slice x.so x.st.length x.sc, .slice x.ho x.hs.length x.hc]
structure FS where
 st:List Int
 so:Option Addr
 sc:Nat
 err:Int
structure FR where
 ents:List (Int×SH)
 todo:List Int
 to_:Option Addr
 tc:Nat
 has:List Bool
 ho:Option Addr
 hc:Nat
def FR.at_(r:FR):List (Int×Ver.Shape):=r.ents.map fun p=>(p.1,(p.2.st,p.2.hs))
def flow(r:FR)(s:FS):Ver.Flow:=⟨r.at_,r.todo,s.st,r.has,s.err⟩
abbrev fcells(cb ab:Nat)(u:Value)(r:FR)(s:FS):List Value:=
 [.pointer (some ⟨cb,0,none⟩),u, .map (some ab), .slice r.to_ r.todo.length r.tc, .slice s.so s.st.length s.sc, .slice r.ho r.has.length r.hc, .int .i64 s.err]
abbrev fm(fb cb ab:Nat)(u:Value)(r:FR)(s:FS):List Chunk:=[blk fb (fcells cb ab u r s) 161,arr s.so s.st.length s.sc 3 i64c s.st]
abbrev errE(e e0:Int):Int:=if e0=0 then e else e0
abbrev failE(e:Int)(s:FS):FS:=⟨s.st,s.so,s.sc,errE e s.err⟩
theorem flow_fail(r:FR)(s:FS)(e:Int):flow r (failE e s)=Ver.fail e (flow r s):=by
 unfold Ver.fail flow
 by_cases h:s.err=0<;>simp[h]
theorem fail_is'(fb cb ab:Nat)(u:Value)(r:FR)(z:FS)(e E:Int)(hE:errE e z.err=E):Fn Tryz.prog 92 #[ptr fb, .int .i64 e] [] [blk fb (fcells cb ab u r z) 161] (σ:=Unit) (fun _=>True) (fun _=> .tuple #[]) (fun _=>[blk fb (fcells cb ab u r ⟨z.st,z.so,z.sc,E⟩) 161]):=by
 by_cases h0:z.err=0
 ·obtain rfl:E=e:=by rw[←hE];exact if_pos h0
  refine JE [ptr fb, .int .i64 E] Tryz.func92 Tryz.ntmps92 fun w S=>?_
  (refine Jn ?_)
  repeat(refine Jy ?_;try first|intro ao cap|intro b)
  (refine End.done0'_ (()) (hp:=?_));trivial
 ·obtain rfl:E=z.err:=by rw[←hE];exact if_neg h0
  refine JE [ptr fb, .int .i64 e] Tryz.func92 Tryz.ntmps92 fun w S=>?_
  (refine Jn ?_)
  repeat(refine Jy ?_;try first|intro ao cap|intro b)
  (refine End.done0'_ (()) (hp:=?_));trivial
theorem fail_is(fb cb ab:Nat)(u:Value)(r:FR)(z:FS)(e:Int):Fn Tryz.prog 92 #[ptr fb, .int .i64 e] [] [blk fb (fcells cb ab u r z) 161] (σ:=Unit) (fun _=>True) (fun _=> .tuple #[]) (fun _=>[blk fb (fcells cb ab u r (failE e z)) 161]):=fail_is' fb cb ab u r z e _ rfl
theorem pop_is(fb cb ab:Nat)(u:Value)(r:FR)(z:FS)(hl:z.st.length≤1000):Fn Tryz.prog 98 #[ptr fb] [] (fm fb cb ab u r z) (fun z'=>flow r z'=(Ver.pop (flow r z)).2) (fun _=> .int .i64 (Ver.pop (flow r z)).1) (fun z'=>fm fb cb ab u r z'):=by
 by_cases h0:z.st.length=0
 ·have hp:Ver.pop (flow r z)=(0,Ver.fail 12 (flow r z)):=by unfold Ver.pop;exact if_pos h0
  rw[hp];refine JE [ptr fb] Tryz.func98 Tryz.ntmps98 fun w S=>?_
  (refine Jn ?_)
  repeat(refine Jy ?_;try first|intro ao cap|intro b)
  (refine JQ (fail_is fb cb ab u r z 12) ?_;intro s hs;(refine Jn ?_))
  repeat(refine Jy ?_;try first|intro ao cap|intro b)
  (refine End.done1_ ((failE 12 z)) (he:=Jv) (hp:=?_));exact flow_fail r z 12
 ·have hp:Ver.pop (flow r z)=(z.st.getD (z.st.length-1) default,{flow r z with stack:=z.st.take (z.st.length-1)}):=by unfold Ver.pop;exact if_neg h0
  rw[hp];have hn:IntKind.i64.wrap ((z.st.length:Int)-1)=((z.st.length-1:Nat):Int):=by rw[wrap_i64_in (by omega)];omega
  have hlen:(z.st.take (z.st.length-1)).length=z.st.length-1:=by simp
  refine JE [ptr fb] Tryz.func98 Tryz.ntmps98 fun w S=>?_
  (refine Jn ?_)
  repeat(refine Jy ?_;try first|intro ao cap|intro b)
  (refine End.done1_ ((⟨z.st.take (z.st.length-1),ao,cap,z.err⟩:FS)) (he:=Jv) (ht:=Jx) (hp:=?_));rfl
theorem push_is(fb cb ab:Nat)(u:Value)(r:FR)(z:FS)(t:Int)(hl:z.st.length≤1000):Fn Tryz.prog 96 #[ptr fb, .int .i64 t] [] (fm fb cb ab u r z) (fun z'=>flow r z'=Ver.push t (flow r z)) (fun _=> .tuple #[]) (fun z'=>fm fb cb ab u r z'):=by
 by_cases h0:300<z.st.length+1
 ·have hp:Ver.push t (flow r z)=Ver.fail 4 {flow r z with stack:=z.st ++[t]}:=by unfold Ver.push;exact if_pos h0
  rw[hp];refine JE [ptr fb, .int .i64 t] Tryz.func96 Tryz.ntmps96 fun w S=>?_
  (refine Jn ?_)
  repeat(refine Jy ?_;try first|intro ao cap|intro b)
  (refine Jc ?_;refine OpT.call0_ (spec:=fail_is fb cb ab u r ⟨z.st ++[t],ao,cap,z.err⟩ 4) (t:=Jx) (k:=?_);intro s hs;(refine Jn ?_))
  repeat(refine Jy ?_;try first|intro ao cap|intro b)
  (refine End.done0'_ (failE 4 ⟨z.st ++[t],ao,cap,z.err⟩) (ht:=Jx) (hp:=?_));exact flow_fail r ⟨z.st ++[t],ao,cap,z.err⟩ 4
 ·have hp:Ver.push t (flow r z)={flow r z with stack:=z.st ++[t]}:=by unfold Ver.push;exact if_neg h0
  rw[hp];refine JE [ptr fb, .int .i64 t] Tryz.func96 Tryz.ntmps96 fun w S=>?_
  (refine Jn ?_)
  repeat(refine Jy ?_;try first|intro ao cap|intro b)
  (refine End.done0'_ ((⟨z.st ++[t],ao,cap,z.err⟩:FS)) (ht:=Jx) (hp:=?_));rfl
theorem done_is(fb cb ab:Nat)(u:Value)(r:FR)(z:FS)(hl:z.st.length≤1000):Fn Tryz.prog 108 #[ptr fb] [] (fm fb cb ab u r z) (fun z'=>flow r z'=Ver.done (flow r z)) (fun _=> .bool false) (fun z'=>fm fb cb ab u r z'):=by
 by_cases h0:z.st.length=0
 ·have hp:Ver.done (flow r z)=flow r z:=by unfold Ver.done;exact if_pos h0
  rw[hp];refine JE [ptr fb] Tryz.func108 Tryz.ntmps108 fun w S=>?_
  (refine Jn ?_)
  repeat(refine Jy ?_;try first|intro ao cap|intro b)
  (refine End.done1_ (z) (he:=Jv) (hp:=?_));rfl
 ·have hp:Ver.done (flow r z)=Ver.fail 12 (flow r z):=by unfold Ver.done;exact if_neg h0
  rw[hp];refine JE [ptr fb] Tryz.func108 Tryz.ntmps108 fun w S=>?_
  (refine Jn ?_)
  repeat(refine Jy ?_;try first|intro ao cap|intro b)
  (refine JQ (fail_is fb cb ab u r z 12) ?_;intro s hs;(refine Jn ?_))
  repeat(refine Jy ?_;try first|intro ao cap|intro b)
  (refine End.done1_ (failE 12 z) (he:=Jv) (hp:=?_));exact flow_fail r z 12
theorem pop_le(f:Ver.Flow):(Ver.pop f).2.stack.length≤f.stack.length:=by
 unfold Ver.pop Ver.fail
 split
 ·split<;>simp
 ·simp
theorem want1_le(t:Int)(f:Ver.Flow):(Ver.want1 t f).stack.length≤f.stack.length:=by
 have:=pop_le f;unfold Ver.want1
 split
 ·unfold Ver.fail;split<;>exact this
 ·exact this
theorem want_le(l:List Int)(f:Ver.Flow):(Ver.want l f).stack.length≤f.stack.length:=by
 induction l with
 |nil=>exact Nat.le_refl _
 |cons t r ih=>exact Nat.le_trans (want1_le t _) ih
theorem want_is(fb cb ab:Nat)(u:Value)(r:FR)(z:FS)(ao:Option Addr)(n cap:Nat)(l:List Int)(hn:l.length=n)(hn2:n≤1000)(hl:z.st.length≤1000):
  Fn Tryz.prog 97 #[ptr fb, .slice ao n cap] [rd ao n cap i64c l] (fm fb cb ab u r z) (fun z'=>flow r z'=Ver.want l (flow r z)) (fun _=> .tuple #[]) (fun z'=>fm fb cb ab u r z'):=by
 refine JE [ptr fb, .slice ao n cap] Tryz.func97 Tryz.ntmps97 fun w S=>?_
 (refine Jn ?_)
 repeat(refine Jy ?_;try first|intro ao cap|intro b)
 apply Cod.loop (σ:=Nat×FS) (fun s=>s.1≤n∧flow r s.2=Ver.want (l.drop s.1) (flow r z)) (fun s=>[(0,ptr fb),(1, .slice ao n cap),(4, .int .i64 ((s.1:Int)-1))]) (fun s=>old w S::rd ao n cap i64c l::fm fb cb ab u r s.2) (fun s=>s.1) (n,z)
 rotate_left
 exact sb;exact tks;intro s hs K hK;(refine Jn ?_)
 rotate_left
 ·exact⟨Nat.le_refl _,by rw[List.drop_of_length_le (by simp only;omega)];rfl⟩
 obtain⟨k,y⟩:=s;obtain⟨hk,hy⟩:=hs;simp only at hk hy hK⊢;have hyl:y.st.length≤1000:=by
  have h1:=want_le (l.drop k) (flow r z);rw[←hy]at h1;exact Nat.le_trans h1 hl
 by_cases hk0:k=0
 ·subst hk0
  repeat(refine Jy ?_;try first|intro ao cap|intro b)
  (refine End.done0'_ (y) (hp:=?_));exact hy
 ·obtain⟨j,rfl⟩:∃j,k=j+1:=⟨k-1,by omega⟩;have hd:Ver.want (l.drop j) (flow r z)=Ver.want1 (l.getD j default) (flow r y):=by rw[drop_cons (by omega),hy];rfl
  have hj:(((j+1:Nat):Int)-1)=(j:Int):=by omega
  rw[hj]
  repeat(refine Jy ?_;try first|intro ao cap|intro b)
  (refine JQ (pop_is fb cb ab u r y hyl) ?_;intro s hs;(refine Jn ?_))
  by_cases hv:(Ver.pop (flow r y)).1=l.getD j default
  ·repeat(refine Jy ?_;try first|intro ao cap|intro b)
   refine End.round_ hK (j,s) ?_ ?_
   ·refine⟨by simp only;omega,?_⟩;rw[hd,Ver.want1,if_neg (fun h=>h hv)];exact hs
   ·simp only;omega
  ·repeat(refine Jy ?_;try first|intro ao cap|intro b)
   obtain⟨y',rfl⟩:∃y',y'=s:=⟨_,rfl⟩;have hy1:=hs;(refine JQ (fail_is fb cb ab u r y' 9) ?_;intro s hs;(refine Jn ?_))
   repeat(refine Jy ?_;try first|intro ao cap|intro b)
   refine End.round_ hK (j,failE 9 y') ?_ ?_
   ·refine⟨by simp only;omega,?_⟩;rw[hd,Ver.want1,if_pos hv,flow_fail,hy1]
   ·simp only;omega
structure Ok(M:ImgM.Mdl):Prop where
 boxes:M.boxes.length≤30
 units:M.units.length≤30
 head:∀k,k<M.units.length→Ver.head M (M.units.getD k default)=0
 instr:∀k,k<M.units.length→∀i∈(M.units.getD k default).code,Ver.instr M (M.units.getD k default) i=0
theorem head_ok{M:ImgM.Mdl}{u:ImgM.Unt}(h:Ver.head M u=0):u.locals.length≤200∧0≤u.params∧u.params≤6∧u.params≤u.locals.length∧1≤u.code.length∧u.code.length≤4000:=by
 unfold Ver.head at h
 split at h
 ·cases h
 split at h
 ·cases h
 split at h
 ·cases h
 omega
theorem args_is(fb cb ab mb:Nat)(u:Value)(m:ML)(r:FR)(z:FS)(hl:z.st.length≤1000)(k:Nat)(hk:k<m.us.length)(hh:Ver.head m.mdl (m.us.getD k default).u=0):
  Fn Tryz.prog 107 #[ptr fb, .int .i64 (k:Int)] [md m] (fm fb cb ab u r z ++ck cb mb m) (fun z'=>flow r z'=Ver.args m.mdl k (flow r z)) (fun _=>up m k) (fun z'=>fm fb cb ab u r z' ++ck cb mb m):=by
 obtain⟨h1,h2,h3,h4,h5,h6⟩:=head_ok hh;have ha:Ver.args m.mdl k (flow r z)=Ver.want ((m.us.getD k default).u.locals.take (m.us.getD k default).u.params.toNat) (flow r z):=by
  unfold Ver.args;rw[Jj,ML.unit_at]
 rw[ha];refine JE [ptr fb, .int .i64 (k:Int)] Tryz.func107 Tryz.ntmps107 fun w S=>?_
 (refine Jn ?_);(refine Jn ?_)
 repeat(refine Jy ?_;try first|intro ao cap|intro b)
 apply Cod.draw 10 ([md m,blk fb (fcells cb ab u r z) 161,blk cb [.pointer (some ⟨mb,0,none⟩)] 108,blk mb [.slice m.bo m.bx.length m.bc, .slice m.uo m.us.length m.uc] 25]) (by kernel_rfl) 11 rfl;refine JR 0 ?_;refine JR 1 ?_;refine JR 2 ?_;refine JR 3 ?_;refine JR 4 ?_;refine JR 5 ?_;refine JR 6 ?_;refine JR 7 ?_;refine JR 8 ?_;(refine JT 9 ?_;refine OpT.cutMdL_ (m:=m) (k:=k) (kk:=?_);intro ao cap;refine JG ?_;(refine Jn ?_));(refine JT 10 ?_;refine OpT.call0_ (spec:=want_is fb cb ab u r z ao _ cap ((m.us.getD k default).u.locals.take (m.us.getD k default).u.params.toNat) (List.length_take_of_le (by omega)) (by omega) hl) (k:=?_);intro s hs;refine JG ?_;(refine Jn ?_));(apply RunT.done;kernel_rfl)
 repeat(refine Jy ?_;try first|intro ao cap|intro b)
 (refine End.done1_ (s) (he:=Jv) (hp:=?_));exact hs
end
attribute [local irreducible] Run Cod End OpT Still RunQ RunS RunT Fn PutOk
theorem copied_is(x:SH)(h1:x.st.length≤1000000)(h2:x.hs.length≤1000000):Fn Tryz.prog 66 #[shV x] [rd x.so x.st.length x.sc i64c x.st,rd x.ho x.hs.length x.hc boolc x.hs] [] (fun y:SH=>y.st=x.st∧y.hs=x.hs) shV (fun y=>[arr y.so y.st.length y.sc 3 i64c y.st,arr y.ho y.hs.length y.hc 4 boolc y.hs]):=by
 refine JE [shV x] Tryz.func66 Tryz.ntmps66 fun w S=>?_
 (refine Jn ?_)
 repeat(refine Jy ?_;try first|intro ao cap|intro b)
 rename_i b1
 apply Cod.draw 7 ([blk b1 [.slice x.so x.st.length x.sc, .slice x.ho x.hs.length x.hc] 159]) (by kernel_rfl) 8 rfl;refine JR 0 ?_;refine JR 1 ?_;refine JR 3 ?_;refine JR 4 ?_;(refine JT 2 ?_;refine JK (cloneI_is x.so x.st.length x.sc x.st rfl (by omega)) ?_;intro s hs;refine JG ?_;(refine Jn ?_));obtain⟨ao,ac⟩:=s;(refine JT 5 ?_;refine JK (cloneB_is x.ho x.hs.length x.hc x.hs rfl (by omega)) ?_;intro s hs;refine JG ?_;(refine Jn ?_));obtain⟨bo,bc⟩:=s;refine JR 6 ?_;(refine JT 7 ?_;(first|refine Jw ?_|(refine Jb ?_;intro b)|(refine Ja ?_;intro ao cap));refine JG ?_);(apply RunT.done;kernel_rfl)
 repeat(refine Jy ?_;try first|intro ao cap|intro b)
 (refine End.doneC1_ ((⟨x.st,ao,ac,x.hs,bo,bc⟩:SH)) (he:=by rfl) (hp:=?_));exact⟨rfl,rfl⟩
theorem pop_mem(f:Ver.Flow)(h:∀t∈f.stack,ImgM.In64 t):ImgM.In64 (Ver.pop f).1:=by
 unfold Ver.pop
 split
 ·unfold ImgM.In64;simp only;omega
 ·refine h _ ?_;rw[Jd,Je (by omega)];exact List.getElem_mem _
def genV(m:ML):Option Int→Value
 |none=> .pointer none
 |some k=>up m k.toNat
theorem gen_is(fb cb ab mb:Nat)(u:Value)(m:ML)(r:FR)(z:FS)(hl:z.st.length≤1000)(ht:∀t∈z.st,ImgM.In64 t):
  Fn Tryz.prog 109 #[ptr fb] [md m] (fm fb cb ab u r z ++ck cb mb m) (fun z'=>flow r z'=(Ver.gen m.mdl (flow r z)).2) (fun _=>genV m (Ver.gen m.mdl (flow r z)).1) (fun z'=>fm fb cb ab u r z' ++ck cb mb m):=by
 refine JE [ptr fb] Tryz.func109 Tryz.ntmps109 fun w S=>?_
 (refine Jn ?_);(refine Jn ?_)
 repeat(refine Jy ?_;try first|intro ao cap|intro b)
 (refine JQ (pop_is fb cb ab u r z hl) ?_;intro s hs;(refine Jn ?_));have ht':=pop_mem (flow r z) ht;generalize hp:(Ver.pop (flow r z)).1=t at *;have hg:Ver.gen m.mdl (flow r z)=if s.err≠0 then(none,flow r s)else if Ver.handle m.mdl t=false then(none,Ver.fail 9 (flow r s))else(some (t-10),flow r s):=by
  unfold Ver.gen;rw[←hs,hp];rfl
 obtain⟨y,rfl⟩:∃y,y=s:=⟨_,rfl⟩;clear hs
 by_cases he:y.err=0
 ·rw[if_neg (fun h=>h he)]at hg
  repeat(refine Jy ?_;try first|intro ao cap|intro b)
  (refine JQ (handle_is cb mb m t ht') ?_;intro s hs;(refine Jn ?_))
  cases hh:Ver.handle m.mdl t with
  |false=>
   rw[hh,if_pos rfl]at hg;rw[hg]
   repeat(refine Jy ?_;try first|intro ao cap|intro b)
   (refine JQ (fail_is fb cb ab u r y 9) ?_;intro s hs;(refine Jn ?_))
   repeat(refine Jy ?_;try first|intro ao cap|intro b)
   (refine End.done1_ (failE 9 y) (he:=Jv) (hp:=?_));exact flow_fail r y 9
  |true=>
   rw[hh,if_neg (by decide)]at hg;rw[hg];unfold ImgM.In64 at ht';have hh':=hh;simp only[Ver.handle,Ver.isUnit,JX,JV,Jf]at hh';obtain⟨g1,⟨g2,g3⟩,g4⟩:=hh';clear g4
   repeat(refine Jy ?_;try first|intro ao cap|intro b)
   (refine End.done1_ (y) (he:=by rfl) (hp:=?_));rfl
 ·rw[if_pos he]at hg;rw[hg]
  repeat(refine Jy ?_;try first|intro ao cap|intro b)
  (refine End.done1_ (y) (he:=Jv) (hp:=?_));rfl
end Go.Proofs.YtjehflelkpacfaaGreat.Vw
