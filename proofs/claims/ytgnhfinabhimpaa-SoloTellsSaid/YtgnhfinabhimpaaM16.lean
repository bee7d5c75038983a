/- verify's flow, walked: going to a place. -/
import Derived.Test.YtgnhfinabhimpaaM15
set_option linter.unusedVariables false
set_option linter.unusedSimpArgs false
set_option linter.unusedSectionVars false
set_option maxRecDepth 100000
namespace Go.Proofs.Ytgnhfinabhimpaa.Vw
open Go.RowKit Go.Proofs.Ytgnhfinabhimpaa.Img
attribute [local irreducible] Run Cod End OpT Still RunQ RunS RunT Fn PutOk
abbrev shC(x:SH):List Chunk:=[arr x.so x.st.length x.sc 3 i64c x.st,arr x.ho x.hs.length x.hc 4 boolc x.hs]
def inner(l:List (Int×SH)):List Chunk:=l.flatMap fun p=>shC p.2
abbrev fa(fb cb ab:Nat)(u:Value)(r:FR)(s:FS):List Chunk:=
 [blk fb (fcells cb ab u r s) 92,arr s.so s.st.length s.sc 3 i64c s.st,arr r.to_ r.todo.length r.tc 3 i64c r.todo,arr r.ho r.has.length r.hc 4 boolc r.has,mp ab shV r.ents,bag (inner r.ents)]
theorem mfind_at(l:List (Int×SH))(k:Int):Ver.find (l.map fun p=>(p.1,(p.2.st,p.2.hs))) k=(mfind l k).map fun x=>(x.st,x.hs):=by
 induction l with
 |nil=>rfl
 |cons a l ih=>
  obtain⟨q,x⟩:=a
  by_cases h:q=k
  ·simp[Ver.find,mfind,h]
  ·have e1:mfind ((q,x)::l) k=mfind l k:=by simp[mfind,h]
   rw[e1,←ih];simp[Ver.find,h]
theorem mput_at(l:List (Int×SH))(k:Int)(y:SH):(mput l k y).map (fun p=>(p.1,(p.2.st,p.2.hs)))=Ver.put (l.map fun p=>(p.1,(p.2.st,p.2.hs))) k (y.st,y.hs):=by
 induction l with
 |nil=>rfl
 |cons a l ih=>
  obtain⟨q,x⟩:=a;simp only[mput,List.map_cons,Ver.put]
  by_cases h:q=k
  ·simp[h]
  ·simp[h,ih]
def mdel:List (Int×SH)→Int→List (Int×SH)
 |[],_=>[]
 |(q,a)::r,k=>if q=k then r else(q,a)::mdel r k
theorem inner_cons(a:Int×SH)(l:List (Int×SH)):inner (a::l)=shC a.2 ++inner l:=by simp[inner]
theorem inner_put(l:List (Int×SH))(k:Int)(y:SH)(x:SH)(h:mfind l k=some x):(inner (mput l k y)).Perm (shC y ++inner (mdel l k)):=by
 induction l with
 |nil=>cases h
 |cons a l ih=>
  obtain⟨q,b⟩:=a;unfold mput mdel;unfold mfind at h
  by_cases hq:q=k
  ·simp only[hq,if_true,inner_cons];exact List.Perm.refl _
  ·simp only[hq,if_false]at h⊢;rw[inner_cons,inner_cons];exact((ih h).append_left _).trans (List.perm_append_comm_assoc _ _ _)
theorem mput_same(l:List (Int×SH))(k:Int)(x:SH)(h:mfind l k=some x):mput l k x=l:=by
 induction l with
 |nil=>cases h
 |cons a l ih=>
  obtain⟨q,b⟩:=a;unfold mput;unfold mfind at h
  by_cases hq:q=k
  ·simp only[hq,if_true]at h⊢
   cases h;rfl
  ·simp only[hq,if_false]at h⊢;rw[ih h]
theorem mput_val(l:List (Int×SH))(k:Int)(x y:SH)(h:mfind l k=some x)(e:shV y=shV x):l.map (fun p=>(Value.int .i64 p.1,shV p.2))=(mput l k y).map (fun p=>(Value.int .i64 p.1,shV p.2)):=by
 induction l with
 |nil=>cases h
 |cons a l ih=>
  obtain⟨q,b⟩:=a;unfold mput;unfold mfind at h
  by_cases hq:q=k
  ·simp only[hq,if_true]at h⊢
   cases h
   simp[e]
  ·simp only[hq,if_false]at h⊢;simp[ih h]
theorem inner_mem(l:List (Int×SH))(k:Int)(x:SH)(h:mfind l k=some x):∀c∈shC x,c∈inner l:=by
 intro c hc;have:=inner_put l k x x h;rw[mput_same l k x h]at this;exact this.mem_iff.2 (List.mem_append_left _ hc)
theorem inner_new(l:List (Int×SH))(k:Int)(y:SH)(h:mfind l k=none):inner (mput l k y)=inner l ++shC y:=by
 rw[mput_new k y l h];simp[inner]
theorem meet_len:∀(a b:List Bool),a.length=b.length→(Ver.meet a b).length=a.length
 |[],_,_=>by cases ‹List Bool› <;>rfl
 |_::_,[],h=>by cases h
 |x::a,y::b,h=>by simp[Ver.meet,meet_len a b (by simpa using h)]
theorem meet_at:∀(a b:List Bool) (k:Nat),k<a.length→a.length=b.length→(Ver.meet a b).getD k default=(a.getD k default&&b.getD k default)
 |[],_,k,h,_=>by simp at h
 |_::_,[],_,_,h=>by cases h
 |x::a,y::b,0,_,_=>rfl
 |x::a,y::b,k+1,h,h2=>by
  have:=meet_at a b k (by simpa using h) (by simpa using h2);simpa[Ver.meet]using this
theorem End.bagNew{Q:Exit→Act→World→Prop}{N:Nat}{E:Env}{e:Exit}{cs cs' ds L L' F:List Chunk}(hin:cs'=cs ++ds)(t:Take (bag cs) L L')(t2:Takes ds L' F)(hx:∀c∈ds,c.excl=true)(h:End Q N e E (bag cs'::F)):End Q N e E L:=
 End.imp (fun w hm=>hin▸Mem.bagAdd hm t t2 hx) h
theorem End.bagBack{Q:Exit→Act→World→Prop}{N:Nat}{E:Env}{e:Exit}{cs ds es L L' F:List Chunk}(p:cs.Perm (ds ++es))(t:Take (bag es) L L')(t2:Takes ds L' F)(hx:∀c∈ds,c.excl=true)(h:End Q N e E (bag cs::F)):End Q N e E L:=
 End.imp (fun w hm=>Mem.bagIn hm t t2 p hx) h
theorem Cod.bagOut{P:Program}{Q:Exit→Act→World→Prop}{N:Nat}{E:Env}{c:Code}{cs ds es L L':List Chunk}(p:cs.Perm (ds ++es))(t:Take (bag cs) L L')(h:Cod P Q N c E (ds ++(bag es::L'))):Cod P Q N c E L:=
 Cod.imp (fun w hm=>Mem.bagOut hm t p) h
theorem list_extB{l l':List Bool}(n:Nat)(hn:l.length=n)(hm:l'.length=n)(h:∀j,j<n→l.getD j default=l'.getD j default):l=l':=
 List.ext_getElem (by omega) (fun j h1 h2=>by have:=h j (by omega);simpa[List.getD_eq_getElem?_getD,h1,h2]using this)
theorem getD_set{l:List Bool}{k j:Nat}{v:Bool}(hk:k<l.length):(l.set k v).getD j default=if j=k then v else l.getD j default:=by
 simp only[List.getD_eq_getElem?_getD,List.getElem?_set]
 by_cases h:k=j
 ·subst h;simp[hk]
 ·rw[if_neg h,if_neg (fun h'=>h h'.symm)]
structure MeetOk(a b:List Bool)(s:Nat×List Bool×Bool):Prop where
 le:s.1≤a.length
 len:s.2.1.length=a.length
 done:∀j,j<s.1→s.2.1.getD j default=(a.getD j default&&b.getD j default)
 rest:∀j,s.1≤j→s.2.1.getD j default=a.getD j default
 less:(s.2.2=false∧s.2.1=a)∨(s.2.2=true∧s.2.1≠a)
theorem MeetOk.start(a b:List Bool):MeetOk a b (0,a,false):=⟨by simp,rfl,fun j h=>by simp at h,fun j h=>rfl, .inl ⟨rfl,rfl⟩⟩
theorem MeetOk.fin{a b:List Bool}{k:Nat}{l:List Bool}{t:Bool}(h:MeetOk a b (k,l,t))(hk:¬k<a.length)(hab:a.length=b.length):l=Ver.meet a b:=by
 have h1:=h.len;simp only at h1;exact list_extB a.length h1 (meet_len a b hab) (fun j hj=>by rw[meet_at a b j hj hab];exact h.done j (by simp only;omega))
theorem MeetOk.set{a b:List Bool}{k:Nat}{l:List Bool}{t:Bool}(h:MeetOk a b (k,l,t))(hk:k<a.length)(h1:l.getD k default=true)(h2:b.getD k default=false):MeetOk a b (k+1,l.set k false,true):=by
 have hl:=h.len;have hr:=h.rest k (Nat.le_refl _);simp only at hl hr;refine⟨hk,by simp[hl],fun j hj=>?_,fun j hj=>?_, .inr ⟨rfl,fun e=>?_⟩⟩
 ·simp only at hj⊢;rw[getD_set (by omega)]
  by_cases hjk:j=k
  ·subst hjk;rw[if_pos rfl,h2];simp
  ·rw[if_neg hjk];exact h.done j (by simp only;omega)
 ·simp only at hj⊢;rw[getD_set (by omega),if_neg (by omega)];exact h.rest j (by simp only;omega)
 ·have:=congrArg (fun x=>x.getD k default) e;simp only at this;rw[getD_set (by omega),if_pos rfl,←hr,h1]at this
  cases this
theorem MeetOk.skip{a b:List Bool}{k:Nat}{l:List Bool}{t:Bool}(h:MeetOk a b (k,l,t))(hk:k<a.length)(h1:¬(l.getD k default=true∧b.getD k default=false)):MeetOk a b (k+1,l,t):=by
 have hr:=h.rest k (Nat.le_refl _);simp only at hr;refine⟨hk,h.len,fun j hj=>?_,fun j hj=>h.rest j (by simp only at hj⊢;omega),h.less⟩;simp only at hj⊢
 by_cases hjk:j=k
 ·subst hjk;rw[hr]at h1⊢
  cases ha:a.getD j default<;>cases hb:b.getD j default<;>simp_all
 ·exact h.done j (by simp only;omega)
theorem to_is(fb cb ab:Nat)(m:ML)(q:Nat)(hq:q<m.us.length)(r:FR)(z:FS)(p:Int)(hl:z.st.length≤1000)(hh:r.has.length≤1000)(hto:r.todo.length≤1000000000)
  (hent:∀x,mfind r.ents p=some x→x.st.length≤1000∧x.hs.length=r.has.length):
  Fn Try.prog 30 #[ptr fb, .int .i64 p] [md m] (fa fb cb ab (up m q) r z) (σ:=FR×FS) (fun s=>flow s.1 s.2=Ver.to (m.us.getD q default).u.code.length p (flow r z)) (fun _=> .tuple #[]) (fun s=>fa fb cb ab (up m q) s.1 s.2):=by
 obtain⟨F,hF⟩:∃F,F=Ver.to (m.us.getD q default).u.code.length p (flow r z):=⟨_,rfl⟩;rw[←hF];unfold Ver.to at hF;refine Fn.enter (args:=[ptr fb, .int .i64 p]) Try.func30 rfl _ Try.ntmps30 rfl (by simp[rd_excl,md_excl]) (fun w S=>?_);(refine Jn ?_)
 by_cases he:z.err=0
 ·rw[if_neg (fun h=>h he)]at hF
  by_cases hp:p=((m.us.getD q default).u.code.length:Int)
  ·rw[if_pos hp]at hF
   repeat(refine Jy ?_;try first|intro ao cap|intro b)
   (refine Jc ?_;refine OpT.call0_ (spec:=fail_is fb cb ab (up m q) r z 3) (t:=Jx) (k:=?_);intro s hs;(refine Jn ?_))
   repeat(refine Jy ?_;try first|intro ao cap|intro b)
   (refine End.done0_ ((r,failE 3 z)) (hp:=?_));rw[hF];exact flow_fail r z 3
  ·rw[if_neg hp]at hF;have hfd:Ver.find (flow r z).at_ p=(mfind r.ents p).map fun x=>(x.st,x.hs):=mfind_at r.ents p
   rw[hfd]at hF
   cases hm:mfind r.ents p with
   |none=>
    rw[hm]at hF;simp only[Option.map_none]at hF
    repeat(refine Jy ?_;try first|intro ao cap|intro b)
    apply Cod.draw 10 ([blk fb (fcells cb ab (up m q) r z) 92]) (by kernel_rfl) 11 rfl;refine JR 0 ?_;refine JR 1 ?_;refine JR 2 ?_;refine JR 3 ?_;refine JR 4 ?_;refine JR 5 ?_;refine JR 6 ?_;refine JR 7 ?_;refine JR 8 ?_;(refine JT 9 ?_;refine JK (copied_is ⟨z.st,z.so,z.sc,r.has,r.ho,r.hc⟩ (by show z.st.length≤1000000;omega) (by show r.has.length≤1000000;omega)) ?_;intro s hs;refine And.intro gud ?_;(refine Jn ?_));(refine JT 10 ?_;refine OpT.mapUpdate_ (a:=s) (k:=?_);refine And.intro gud ?_;(refine Jn ?_));(apply RunT.done;kernel_rfl)
    repeat(refine Jy ?_;try first|intro ao cap|intro b)
    obtain⟨hs1,hs2⟩:=hs;simp only at hs1 hs2;apply End.bagNew (inner_new r.ents p s hm) tk tks (by simp[arr_excl]);(refine End.done0_ (({r with ents:=mput r.ents p s,todo:=r.todo ++[p],to_:=ao,tc:=cap},z)) (ht:=Jx) (hp:=?_));have hmp:=mput_new p s r.ents hm;rw[hF];simp[flow,FR.at_,hmp,hs1,hs2]
   |some x=>
    rw[hm]at hF;simp only[Option.map_some]at hF;obtain⟨hx1,hx2⟩:=hent x hm;have hmem:=inner_mem r.ents p x hm;have hm1:arr x.so x.st.length x.sc 3 i64c x.st∈inner r.ents:=hmem _ (by simp)
    repeat(refine Jy ?_;try first|intro ao cap|intro b)
    (apply Run.op;exact rfl;refine OpT.call0_ (spec:=equal_is x.so z.so _ _ _ _ x.st z.st rfl rfl (by omega) (by omega)) (k:=?_);intro s hs;(refine Jn ?_))
    by_cases hst:x.st=z.st
    ·have hd:decide (x.st=z.st)=true:=decide_eq_true hst;rw[if_neg (show¬x.st≠(flow r z).stack from fun h=>h hst)]at hF;have hpm:=inner_put r.ents p x x hm;rw[mput_same r.ents p x hm]at hpm
     repeat(refine Jy ?_;try first|intro ao cap|intro b)
     apply Cod.bagOut hpm tk;apply Cod.loop (σ:=Nat×List Bool×Bool) (MeetOk x.hs r.has) (fun s=>[(0,ptr fb),(1, .int .i64 p),(4,ptr b),(6, .bool s.2.2),(69, .int .i64 (x.hs.length:Int)),(70, .int .i64 (s.1:Int))]) (fun s=>[old w S,md m,blk fb (fcells cb ab (up m q) r z) 92,arr z.so z.st.length z.sc 3 i64c z.st,arr r.to_ r.todo.length r.tc 3 i64c r.todo,arr r.ho r.has.length r.hc 4 boolc r.has,mp ab shV r.ents,bag (inner (mdel r.ents p)),arr x.so x.st.length x.sc 3 i64c x.st,arr x.ho x.hs.length x.hc 4 boolc s.2.1,blk b [.slice x.so x.st.length x.sc, .slice x.ho x.hs.length x.hc] 90]) (fun s=>x.hs.length-s.1) (0,x.hs,false)
     rotate_left
     exact sb;exact tks;intro s hs KM hKM;(refine Jn ?_)
     rotate_left
     ·exact MeetOk.start _ _
     obtain⟨k,l,t⟩:=s;have hle:=hs.le;simp only at hle hKM⊢
     by_cases hk:k<x.hs.length
     ·by_cases hb:l.getD k default=true∧r.has.getD k default=false
      ·obtain⟨hb1,hb2⟩:=hb
       repeat(refine Jy ?_;try first|intro ao cap|intro b)
       apply Run.op (by exact rfl);refine OpT.storeE_ (a':=false) (k:=?_)
       repeat(refine Jy ?_;try first|intro ao cap|intro b)
       refine End.round0_ hKM (k+1,l.set k false,true) ?_ ?_
       ·exact hs.set hk hb1 hb2
       ·simp only;omega
      ·cases hb1:l.getD k default with
       |false=>
        repeat(refine Jy ?_;try first|intro ao cap|intro b)
        refine End.round0_ hKM (k+1,l,t) ?_ ?_
        ·exact hs.skip hk hb
        ·simp only;omega
       |true=>
        have hb2:r.has.getD k default=true:=by cases h:r.has.getD k default<;>simp_all
        repeat(refine Jy ?_;try first|intro ao cap|intro b)
        refine End.round0_ hKM (k+1,l,t) ?_ ?_
        ·exact hs.skip hk hb
        ·simp only;omega
     ·have hfin:=hs.fin hk hx2;have hless:=hs.less;simp only at hless;rw[show Ver.meet x.hs (flow r z).has=l from hfin.symm]at hF;clear hs;rcases hless with⟨rfl,rfl⟩|⟨rfl,hne⟩
      ·rw[if_pos rfl]at hF
       repeat(refine Jy ?_;try first|intro ao cap|intro b)
       apply End.bagBack hpm tk tks (by simp[arr_excl]);(refine End.done0'_ ((r,z)) (hp:=?_));rw[hF]
      ·rw[if_neg hne]at hF;have hll:l.length=x.hs.length:=by rw[hfin];exact meet_len _ _ hx2
       have hpy:=inner_put r.ents p ⟨x.st,x.so,x.sc,l,x.ho,x.hc⟩ x hm;have hsv:shV ⟨x.st,x.so,x.sc,l,x.ho,x.hc⟩=shV x:=by unfold shV;simp only[hll]
       have hmv:=mput_val r.ents p x ⟨x.st,x.so,x.sc,l,x.ho,x.hc⟩ hm hsv
       repeat(refine Jy ?_;try first|intro ao cap|intro b)
       apply End.imp (fun w hm'=>mp_congr hm' tk hmv);apply End.bagBack hpy tk (Jx) (by simp[arr_excl]);(refine End.done0'_ (({r with ents:=mput r.ents p ⟨x.st,x.so,x.sc,l,x.ho,x.hc⟩,todo:=r.todo ++[p],to_:=ao,tc:=cap},z)) (ht:=Jx) (hp:=?_));rw[hF];simp only[flow,FR.at_,mput_at]
    ·have hd:decide (x.st=z.st)=false:=decide_eq_false hst;rw[if_pos (show x.st≠(flow r z).stack from hst)]at hF
     repeat(refine Jy ?_;try first|intro ao cap|intro b)
     (refine Jc ?_;refine OpT.call0_ (spec:=fail_is fb cb ab (up m q) r z 8) (t:=Jx) (k:=?_);intro s hs;(refine Jn ?_))
     repeat(refine Jy ?_;try first|intro ao cap|intro b)
     (refine End.done0_ ((r,failE 8 z)) (hp:=?_));rw[hF];exact flow_fail r z 8
 ·rw[if_pos (show(flow r z).err≠0 from he)]at hF
  repeat(refine Jy ?_;try first|intro ao cap|intro b)
  (refine End.done0_ ((r,z)) (hp:=?_));rw[hF]
section
variable(fb cb ab mb:Nat)(m:ML)(r:FR)(z:FS)(q:Nat)(hq:q<m.us.length)(hl:z.st.length≤300)(hst:∀t∈z.st,ImgM.In64 t)
abbrev StepFn(i:ImgM.Ins):Prop:=Fn Try.prog 32 #[ptr fb,insV i] [md m] (fa fb cb ab (up m q) r z ++ck cb mb m) (σ:=FR×FS) (fun s=>flow s.1 s.2=(Ver.step m.mdl (m.us.getD q default).u i (flow r z)).2) (fun _=> .bool (Ver.step m.mdl (m.us.getD q default).u i (flow r z)).1) (fun s=>fa fb cb ab (up m q) s.1 s.2 ++ck cb mb m)
include hl hst hq
theorem step_1(a n:Int):StepFn fb cb ab mb m r z q ⟨1,a,n⟩:=by
 obtain⟨F,hF⟩:∃F,F=Ver.push 1 (flow r z):=⟨_,rfl⟩;have e:Ver.step m.mdl (m.us.getD q default).u ⟨1,a,n⟩ (flow r z)=(true,F):=by
  unfold Ver.step;dsimp only;(repeat rw[if_neg (by omega)]);rw[if_pos (by omega)];rw[hF]
 unfold StepFn;rw[e];clear e;refine Fn.enter (args:=[ptr fb, .agg #[.int .i64 1, .int .i64 a, .int .i64 n]]) Try.func32 rfl _ Try.ntmps32 rfl (by simp[rd_excl,md_excl]) (fun w S=>?_);(refine Jn ?_);(refine Jn ?_)
 repeat(refine Jy ?_;try first|intro ao cap|intro b)
 (refine Jc ?_;refine OpT.call0_ (spec:=push_is fb cb ab (up m q) r z 1 (by omega)) (t:=Jx) (k:=?_);intro s hs;(refine Jn ?_))
 repeat(refine Jy ?_;try first|intro ao cap|intro b)
 (refine End.done1_ ((r,s)) (he:=Jv) (hp:=?_));simp only;rw[hF,hs]
theorem step_2(a n:Int):StepFn fb cb ab mb m r z q ⟨2,a,n⟩:=by
 obtain⟨F,hF⟩:∃F,F=Ver.push 2 (flow r z):=⟨_,rfl⟩;have e:Ver.step m.mdl (m.us.getD q default).u ⟨2,a,n⟩ (flow r z)=(true,F):=by
  unfold Ver.step;dsimp only;(repeat rw[if_neg (by omega)]);rw[if_pos (by omega)];rw[hF]
 unfold StepFn;rw[e];clear e;refine Fn.enter (args:=[ptr fb, .agg #[.int .i64 2, .int .i64 a, .int .i64 n]]) Try.func32 rfl _ Try.ntmps32 rfl (by simp[rd_excl,md_excl]) (fun w S=>?_);(refine Jn ?_);(refine Jn ?_)
 repeat(refine Jy ?_;try first|intro ao cap|intro b)
 (refine Jc ?_;refine OpT.call0_ (spec:=push_is fb cb ab (up m q) r z 2 (by omega)) (t:=Jx) (k:=?_);intro s hs;(refine Jn ?_))
 repeat(refine Jy ?_;try first|intro ao cap|intro b)
 (refine End.done1_ ((r,s)) (he:=Jv) (hp:=?_));simp only;rw[hF,hs]
theorem step_3(k:Nat)(n:Int)(hk:k<(m.us.getD q default).u.locals.length)(hh:r.has.length=(m.us.getD q default).u.locals.length):StepFn fb cb ab mb m r z q ⟨3,k,n⟩:=by
 obtain⟨F,hF⟩:∃F,F=Ver.push ((m.us.getD q default).u.locals.getD k default) (if r.has.getD k default then flow r z else Ver.fail 11 (flow r z)):=⟨_,rfl⟩;have e:Ver.step m.mdl (m.us.getD q default).u ⟨3,k,n⟩ (flow r z)=(true,F):=by
  unfold Ver.step;dsimp only;(repeat rw[if_neg (by omega)]);rw[if_pos (by omega)];rw[Int.toNat_natCast];rw[hF];rfl
 unfold StepFn;rw[e];clear e;refine Fn.enter (args:=[ptr fb, .agg #[.int .i64 3, .int .i64 k, .int .i64 n]]) Try.func32 rfl _ Try.ntmps32 rfl (by simp[rd_excl,md_excl]) (fun w S=>?_);(refine Jn ?_);(refine Jn ?_)
 cases hb:r.has.getD k default with
 |true=>
  rw[hb,if_pos rfl]at hF
  repeat(refine Jy ?_;try first|intro ao cap|intro b)
  (refine Jc ?_;refine OpT.call0_ (spec:=push_is fb cb ab (up m q) r z ((m.us.getD q default).u.locals.getD k default) (by omega)) (t:=Jx) (k:=?_);intro s hs;(refine Jn ?_))
  repeat(refine Jy ?_;try first|intro ao cap|intro b)
  (refine End.done1_ ((r,s)) (he:=Jv) (hp:=?_));exact hs.trans hF.symm
 |false=>
  rw[hb,if_neg (by decide)]at hF
  repeat(refine Jy ?_;try first|intro ao cap|intro b)
  (refine Jc ?_;refine OpT.call0_ (spec:=fail_is fb cb ab (up m q) r z 11) (t:=Jx) (k:=?_);intro s hs;(refine Jn ?_))
  repeat(refine Jy ?_;try first|intro ao cap|intro b)
  (refine Jc ?_;refine OpT.call0_ (spec:=push_is fb cb ab (up m q) r (failE 11 z) ((m.us.getD q default).u.locals.getD k default) (by show z.st.length≤1000;omega)) (t:=Jx) (k:=?_);intro s hs;(refine Jn ?_))
  repeat(refine Jy ?_;try first|intro ao cap|intro b)
  (refine End.done1_ ((r,s)) (he:=Jv) (hp:=?_));rw[hF,←flow_fail];exact hs
theorem step_4(k:Nat)(n:Int)(hk:k<(m.us.getD q default).u.locals.length)(hh:r.has.length=(m.us.getD q default).u.locals.length):StepFn fb cb ab mb m r z q ⟨4,k,n⟩:=by
 obtain⟨F,hF⟩:∃F,F={Ver.want [(m.us.getD q default).u.locals.getD k default] (flow r z)with has:=(Ver.want [(m.us.getD q default).u.locals.getD k default] (flow r z)).has.set k true}:=⟨_,rfl⟩;have e:Ver.step m.mdl (m.us.getD q default).u ⟨4,k,n⟩ (flow r z)=(true,F):=by
  unfold Ver.step;dsimp only;(repeat rw[if_neg (by omega)]);rw[if_pos (by omega)];rw[Int.toNat_natCast];rw[hF];rfl
 unfold StepFn;rw[e];clear e;refine Fn.enter (args:=[ptr fb, .agg #[.int .i64 4, .int .i64 k, .int .i64 n]]) Try.func32 rfl _ Try.ntmps32 rfl (by simp[rd_excl,md_excl]) (fun w S=>?_);(refine Jn ?_);(refine Jn ?_)
 repeat(refine Jy ?_;try first|intro ao cap|intro b)
 apply Cod.draw 13 ([md m,blk fb (fcells cb ab (up m q) r z) 92,blk b [.int .i64 4, .int .i64 (k:Int), .int .i64 n] 49]) (by kernel_rfl) 14 rfl;refine JR 0 ?_;refine JR 1 ?_;refine JR 2 ?_;refine JR 3 ?_;refine JR 4 ?_;refine JR 5 ?_;refine JR 6 ?_;refine JR 7 ?_;refine JR 8 ?_;refine JR 9 ?_;refine JR 10 ?_;refine JR 11 ?_;(refine JT 12 ?_;(first|refine Jw ?_|(refine Jb ?_;intro b)|(refine Ja ?_;intro ao cap));refine And.intro gud ?_);(refine JT 13 ?_;refine OpT.call0_ (spec:=want_is fb cb ab (up m q) r z _ 1 _ [(m.us.getD q default).u.locals.getD k default] rfl (by omega) (by omega)) (k:=?_);intro s hs;refine And.intro gud ?_;(refine Jn ?_));(apply RunT.done;kernel_rfl)
 repeat(refine Jy ?_;try first|intro ao cap|intro b)
 apply Run.op (by exact rfl);refine OpT.storeE_ (a':=true) (k:=?_)
 repeat(refine Jy ?_;try first|intro ao cap|intro b)
 (refine End.done1_ (({r with has:=r.has.set k true},s)) (he:=Jv) (ht:=Jx) (hp:=?_));simp only;have h1:=congrArg Ver.Flow.stack hs;have h2:=congrArg Ver.Flow.err hs;have h3:=congrArg Ver.Flow.has hs;have h4:=congrArg Ver.Flow.at_ hs;have h5:=congrArg Ver.Flow.todo hs;rw[hF,←hs];rfl
theorem step_5(a n:Int):StepFn fb cb ab mb m r z q ⟨5,a,n⟩:=by
 obtain⟨F,hF⟩:∃F,F=(Ver.pop (flow r z)).2:=⟨_,rfl⟩;have e:Ver.step m.mdl (m.us.getD q default).u ⟨5,a,n⟩ (flow r z)=(true,F):=by
  unfold Ver.step;dsimp only;(repeat rw[if_neg (by omega)]);rw[if_pos (by omega)];rw[hF]
 unfold StepFn;rw[e];clear e;refine Fn.enter (args:=[ptr fb, .agg #[.int .i64 5, .int .i64 a, .int .i64 n]]) Try.func32 rfl _ Try.ntmps32 rfl (by simp[rd_excl,md_excl]) (fun w S=>?_);(refine Jn ?_);(refine Jn ?_)
 repeat(refine Jy ?_;try first|intro ao cap|intro b)
 (refine Jc ?_;refine OpT.call0_ (spec:=pop_is fb cb ab (up m q) r z (by omega)) (t:=Jx) (k:=?_);intro s hs;(refine Jn ?_))
 repeat(refine Jy ?_;try first|intro ao cap|intro b)
 (refine End.done1_ ((r,s)) (he:=Jv) (hp:=?_));simp only;rw[hF,hs]
theorem step_6(a n:Int):StepFn fb cb ab mb m r z q ⟨6,a,n⟩:=by
 obtain⟨F,hF⟩:∃F,F=Ver.push 1 (Ver.want [1] (flow r z)):=⟨_,rfl⟩;have e:Ver.step m.mdl (m.us.getD q default).u ⟨6,a,n⟩ (flow r z)=(true,F):=by
  unfold Ver.step;dsimp only;(repeat rw[if_neg (by omega)]);rw[if_pos (by omega)];rw[hF]
 unfold StepFn;rw[e];clear e;refine Fn.enter (args:=[ptr fb, .agg #[.int .i64 6, .int .i64 a, .int .i64 n]]) Try.func32 rfl _ Try.ntmps32 rfl (by simp[rd_excl,md_excl]) (fun w S=>?_);(refine Jn ?_);(refine Jn ?_)
 repeat(refine Jy ?_;try first|intro ao cap|intro b)
 (refine Jc ?_;refine OpT.call0_ (spec:=want_is fb cb ab (up m q) r z _ 1 _ [1] rfl (by omega) (by omega)) (t:=Jx) (k:=?_);intro s hs;(refine Jn ?_));obtain⟨y,rfl⟩:∃y,y=s:=⟨_,rfl⟩;have hy:=hs;have hyl:y.st.length≤300:=len_of hs (Nat.le_trans (want_le _ _) (show(flow r z).stack.length≤300 from hl));clear hs
 repeat(refine Jy ?_;try first|intro ao cap|intro b)
 (refine Jc ?_;refine OpT.call0_ (spec:=push_is fb cb ab (up m q) r y 1 (by omega)) (t:=Jx) (k:=?_);intro s hs;(refine Jn ?_))
 repeat(refine Jy ?_;try first|intro ao cap|intro b)
 (refine End.done1_ ((r,s)) (he:=Jv) (hp:=?_));simp only;rw[hF,hs,hy]
theorem step_7(a n:Int):StepFn fb cb ab mb m r z q ⟨7,a,n⟩:=by
 obtain⟨F,hF⟩:∃F,F=Ver.push 2 (Ver.want [2] (flow r z)):=⟨_,rfl⟩;have e:Ver.step m.mdl (m.us.getD q default).u ⟨7,a,n⟩ (flow r z)=(true,F):=by
  unfold Ver.step;dsimp only;(repeat rw[if_neg (by omega)]);rw[if_pos (by omega)];rw[hF]
 unfold StepFn;rw[e];clear e;refine Fn.enter (args:=[ptr fb, .agg #[.int .i64 7, .int .i64 a, .int .i64 n]]) Try.func32 rfl _ Try.ntmps32 rfl (by simp[rd_excl,md_excl]) (fun w S=>?_);(refine Jn ?_);(refine Jn ?_)
 repeat(refine Jy ?_;try first|intro ao cap|intro b)
 (refine Jc ?_;refine OpT.call0_ (spec:=want_is fb cb ab (up m q) r z _ 1 _ [2] rfl (by omega) (by omega)) (t:=Jx) (k:=?_);intro s hs;(refine Jn ?_));obtain⟨y,rfl⟩:∃y,y=s:=⟨_,rfl⟩;have hy:=hs;have hyl:y.st.length≤300:=len_of hs (Nat.le_trans (want_le _ _) (show(flow r z).stack.length≤300 from hl));clear hs
 repeat(refine Jy ?_;try first|intro ao cap|intro b)
 (refine Jc ?_;refine OpT.call0_ (spec:=push_is fb cb ab (up m q) r y 2 (by omega)) (t:=Jx) (k:=?_);intro s hs;(refine Jn ?_))
 repeat(refine Jy ?_;try first|intro ao cap|intro b)
 (refine End.done1_ ((r,s)) (he:=Jv) (hp:=?_));simp only;rw[hF,hs,hy]
theorem step_8(op a n:Int)(hop:8≤op∧op≤12):StepFn fb cb ab mb m r z q ⟨op,a,n⟩:=by
 obtain⟨F,hF⟩:∃F,F=Ver.push 1 (Ver.want [1,1] (flow r z)):=⟨_,rfl⟩;have e:Ver.step m.mdl (m.us.getD q default).u ⟨op,a,n⟩ (flow r z)=(true,F):=by
  unfold Ver.step;dsimp only;(repeat rw[if_neg (by omega)]);rw[if_pos (by omega)];rw[hF]
 unfold StepFn;rw[e];clear e;refine Fn.enter (args:=[ptr fb, .agg #[.int .i64 op, .int .i64 a, .int .i64 n]]) Try.func32 rfl _ Try.ntmps32 rfl (by simp[rd_excl,md_excl]) (fun w S=>?_);(refine Jn ?_);(refine Jn ?_)
 repeat(refine Jy ?_;try first|intro ao cap|intro b)
 (refine Jc ?_;refine OpT.call0_ (spec:=want_is fb cb ab (up m q) r z _ 2 _ [1,1] rfl (by omega) (by omega)) (t:=Jx) (k:=?_);intro s hs;(refine Jn ?_));obtain⟨y,rfl⟩:∃y,y=s:=⟨_,rfl⟩;have hy:=hs;have hyl:y.st.length≤300:=len_of hs (Nat.le_trans (want_le _ _) (show(flow r z).stack.length≤300 from hl));clear hs
 repeat(refine Jy ?_;try first|intro ao cap|intro b)
 (refine Jc ?_;refine OpT.call0_ (spec:=push_is fb cb ab (up m q) r y 1 (by omega)) (t:=Jx) (k:=?_);intro s hs;(refine Jn ?_))
 repeat(refine Jy ?_;try first|intro ao cap|intro b)
 (refine End.done1_ ((r,s)) (he:=Jv) (hp:=?_));simp only;rw[hF,hs,hy]
theorem step_15(op a n:Int)(hop:15≤op∧op≤18):StepFn fb cb ab mb m r z q ⟨op,a,n⟩:=by
 obtain⟨F,hF⟩:∃F,F=Ver.push 2 (Ver.want [1,1] (flow r z)):=⟨_,rfl⟩;have e:Ver.step m.mdl (m.us.getD q default).u ⟨op,a,n⟩ (flow r z)=(true,F):=by
  unfold Ver.step;dsimp only;(repeat rw[if_neg (by omega)]);rw[if_pos (by omega)];rw[hF]
 unfold StepFn;rw[e];clear e;refine Fn.enter (args:=[ptr fb, .agg #[.int .i64 op, .int .i64 a, .int .i64 n]]) Try.func32 rfl _ Try.ntmps32 rfl (by simp[rd_excl,md_excl]) (fun w S=>?_);(refine Jn ?_);(refine Jn ?_)
 repeat(refine Jy ?_;try first|intro ao cap|intro b)
 (refine Jc ?_;refine OpT.call0_ (spec:=want_is fb cb ab (up m q) r z _ 2 _ [1,1] rfl (by omega) (by omega)) (t:=Jx) (k:=?_);intro s hs;(refine Jn ?_));obtain⟨y,rfl⟩:∃y,y=s:=⟨_,rfl⟩;have hy:=hs;have hyl:y.st.length≤300:=len_of hs (Nat.le_trans (want_le _ _) (show(flow r z).stack.length≤300 from hl));clear hs
 repeat(refine Jy ?_;try first|intro ao cap|intro b)
 (refine Jc ?_;refine OpT.call0_ (spec:=push_is fb cb ab (up m q) r y 2 (by omega)) (t:=Jx) (k:=?_);intro s hs;(refine Jn ?_))
 repeat(refine Jy ?_;try first|intro ao cap|intro b)
 (refine End.done1_ ((r,s)) (he:=Jv) (hp:=?_));simp only;rw[hF,hs,hy]
theorem step_19(a n:Int):StepFn fb cb ab mb m r z q ⟨19,a,n⟩:=by
 obtain⟨F,hF⟩:∃F,F=Ver.push 2 (Ver.want [2,2] (flow r z)):=⟨_,rfl⟩;have e:Ver.step m.mdl (m.us.getD q default).u ⟨19,a,n⟩ (flow r z)=(true,F):=by
  unfold Ver.step;dsimp only;(repeat rw[if_neg (by omega)]);rw[if_pos (by omega)];rw[hF]
 unfold StepFn;rw[e];clear e;refine Fn.enter (args:=[ptr fb, .agg #[.int .i64 19, .int .i64 a, .int .i64 n]]) Try.func32 rfl _ Try.ntmps32 rfl (by simp[rd_excl,md_excl]) (fun w S=>?_);(refine Jn ?_);(refine Jn ?_)
 repeat(refine Jy ?_;try first|intro ao cap|intro b)
 (refine Jc ?_;refine OpT.call0_ (spec:=want_is fb cb ab (up m q) r z _ 2 _ [2,2] rfl (by omega) (by omega)) (t:=Jx) (k:=?_);intro s hs;(refine Jn ?_));obtain⟨y,rfl⟩:∃y,y=s:=⟨_,rfl⟩;have hy:=hs;have hyl:y.st.length≤300:=len_of hs (Nat.le_trans (want_le _ _) (show(flow r z).stack.length≤300 from hl));clear hs
 repeat(refine Jy ?_;try first|intro ao cap|intro b)
 (refine Jc ?_;refine OpT.call0_ (spec:=push_is fb cb ab (up m q) r y 2 (by omega)) (t:=Jx) (k:=?_);intro s hs;(refine Jn ?_))
 repeat(refine Jy ?_;try first|intro ao cap|intro b)
 (refine End.done1_ ((r,s)) (he:=Jv) (hp:=?_));simp only;rw[hF,hs,hy]
theorem step_20(a n:Int):StepFn fb cb ab mb m r z q ⟨20,a,n⟩:=by
 obtain⟨F,hF⟩:∃F,F=Ver.push 2 (Ver.want [2,2] (flow r z)):=⟨_,rfl⟩;have e:Ver.step m.mdl (m.us.getD q default).u ⟨20,a,n⟩ (flow r z)=(true,F):=by
  unfold Ver.step;dsimp only;(repeat rw[if_neg (by omega)]);rw[if_pos (by omega)];rw[hF]
 unfold StepFn;rw[e];clear e;refine Fn.enter (args:=[ptr fb, .agg #[.int .i64 20, .int .i64 a, .int .i64 n]]) Try.func32 rfl _ Try.ntmps32 rfl (by simp[rd_excl,md_excl]) (fun w S=>?_);(refine Jn ?_);(refine Jn ?_)
 repeat(refine Jy ?_;try first|intro ao cap|intro b)
 (refine Jc ?_;refine OpT.call0_ (spec:=want_is fb cb ab (up m q) r z _ 2 _ [2,2] rfl (by omega) (by omega)) (t:=Jx) (k:=?_);intro s hs;(refine Jn ?_));obtain⟨y,rfl⟩:∃y,y=s:=⟨_,rfl⟩;have hy:=hs;have hyl:y.st.length≤300:=len_of hs (Nat.le_trans (want_le _ _) (show(flow r z).stack.length≤300 from hl));clear hs
 repeat(refine Jy ?_;try first|intro ao cap|intro b)
 (refine Jc ?_;refine OpT.call0_ (spec:=push_is fb cb ab (up m q) r y 2 (by omega)) (t:=Jx) (k:=?_);intro s hs;(refine Jn ?_))
 repeat(refine Jy ?_;try first|intro ao cap|intro b)
 (refine End.done1_ ((r,s)) (he:=Jv) (hp:=?_));simp only;rw[hF,hs,hy]
theorem step_13(a n:Int):StepFn fb cb ab mb m r z q ⟨13,a,n⟩:=by
 obtain⟨F,hF⟩:∃F,F=Ver.push 2 (Ver.want [(Ver.pop (flow r z)).1] (if(Ver.pop (flow r z)).1≠1∧(Ver.pop (flow r z)).1≠2 then Ver.fail 9 (Ver.pop (flow r z)).2 else(Ver.pop (flow r z)).2)):=⟨_,rfl⟩;have e:Ver.step m.mdl (m.us.getD q default).u ⟨13,a,n⟩ (flow r z)=(true,F):=by
  unfold Ver.step;dsimp only;(repeat rw[if_neg (by omega)]);rw[if_pos (by omega)];rw[hF]
 unfold StepFn;rw[e];clear e;refine Fn.enter (args:=[ptr fb, .agg #[.int .i64 13, .int .i64 a, .int .i64 n]]) Try.func32 rfl _ Try.ntmps32 rfl (by simp[rd_excl,md_excl]) (fun w S=>?_);(refine Jn ?_);(refine Jn ?_)
 repeat(refine Jy ?_;try first|intro ao cap|intro b)
 (refine Jc ?_;refine OpT.call0_ (spec:=pop_is fb cb ab (up m q) r z (by omega)) (t:=Jx) (k:=?_);intro s hs;(refine Jn ?_));obtain⟨y,rfl⟩:∃y,y=s:=⟨_,rfl⟩;have hyl:y.st.length≤300:=len_of hs (Nat.le_trans (pop_le _) (show(flow r z).stack.length≤300 from hl));rw[←hs]at hF;generalize(Ver.pop (flow r z)).1=v at *;clear hs
 by_cases hv:v≠1∧v≠2
 ·rw[if_pos hv]at hF;obtain⟨hv1,hv2⟩:=hv
  repeat(refine Jy ?_;try first|intro ao cap|intro b)
  (refine Jc ?_;refine OpT.call0_ (spec:=fail_is fb cb ab (up m q) r y 9) (t:=Jx) (k:=?_);intro s hs;(refine Jn ?_))
  repeat(refine Jy ?_;try first|intro ao cap|intro b)
  (refine Jc ?_;refine OpT.call0_ (spec:=want_is fb cb ab (up m q) r (failE 9 y) _ 1 _ [v] rfl (by omega) (by show y.st.length≤1000;omega)) (t:=Jx) (k:=?_);intro s hs;(refine Jn ?_));obtain⟨x,rfl⟩:∃x,x=s:=⟨_,rfl⟩;have hx:=hs;have hxl:x.st.length≤300:=len_of hs (Nat.le_trans (want_le _ _) hyl);rw[flow_fail]at hx;clear hs
  repeat(refine Jy ?_;try first|intro ao cap|intro b)
  (refine Jc ?_;refine OpT.call0_ (spec:=push_is fb cb ab (up m q) r x 2 (by omega)) (t:=Jx) (k:=?_);intro s hs;(refine Jn ?_))
  repeat(refine Jy ?_;try first|intro ao cap|intro b)
  (refine End.done1_ ((r,s)) (he:=Jv) (hp:=?_));simp only;rw[hF,hs,hx]
 ·rw[if_neg hv]at hF
  by_cases hv1:v=1
  ·repeat(refine Jy ?_;try first|intro ao cap|intro b)
   (refine Jc ?_;refine OpT.call0_ (spec:=want_is fb cb ab (up m q) r y _ 1 _ [v] rfl (by omega) (by omega)) (t:=Jx) (k:=?_);intro s hs;(refine Jn ?_));obtain⟨x,rfl⟩:∃x,x=s:=⟨_,rfl⟩;have hx:=hs;have hxl:x.st.length≤300:=len_of hs (Nat.le_trans (want_le _ _) hyl);clear hs
   repeat(refine Jy ?_;try first|intro ao cap|intro b)
   (refine Jc ?_;refine OpT.call0_ (spec:=push_is fb cb ab (up m q) r x 2 (by omega)) (t:=Jx) (k:=?_);intro s hs;(refine Jn ?_))
   repeat(refine Jy ?_;try first|intro ao cap|intro b)
   (refine End.done1_ ((r,s)) (he:=Jv) (hp:=?_));simp only;rw[hF,hs,hx]
  ·have hv2:v=2:=by omega
   repeat(refine Jy ?_;try first|intro ao cap|intro b)
   (refine Jc ?_;refine OpT.call0_ (spec:=want_is fb cb ab (up m q) r y _ 1 _ [v] rfl (by omega) (by omega)) (t:=Jx) (k:=?_);intro s hs;(refine Jn ?_));obtain⟨x,rfl⟩:∃x,x=s:=⟨_,rfl⟩;have hx:=hs;have hxl:x.st.length≤300:=len_of hs (Nat.le_trans (want_le _ _) hyl);clear hs
   repeat(refine Jy ?_;try first|intro ao cap|intro b)
   (refine Jc ?_;refine OpT.call0_ (spec:=push_is fb cb ab (up m q) r x 2 (by omega)) (t:=Jx) (k:=?_);intro s hs;(refine Jn ?_))
   repeat(refine Jy ?_;try first|intro ao cap|intro b)
   (refine End.done1_ ((r,s)) (he:=Jv) (hp:=?_));simp only;rw[hF,hs,hx]
theorem step_14(a n:Int):StepFn fb cb ab mb m r z q ⟨14,a,n⟩:=by
 obtain⟨F,hF⟩:∃F,F=Ver.push 2 (Ver.want [(Ver.pop (flow r z)).1] (if(Ver.pop (flow r z)).1≠1∧(Ver.pop (flow r z)).1≠2 then Ver.fail 9 (Ver.pop (flow r z)).2 else(Ver.pop (flow r z)).2)):=⟨_,rfl⟩;have e:Ver.step m.mdl (m.us.getD q default).u ⟨14,a,n⟩ (flow r z)=(true,F):=by
  unfold Ver.step;dsimp only;(repeat rw[if_neg (by omega)]);rw[if_pos (by omega)];rw[hF]
 unfold StepFn;rw[e];clear e;refine Fn.enter (args:=[ptr fb, .agg #[.int .i64 14, .int .i64 a, .int .i64 n]]) Try.func32 rfl _ Try.ntmps32 rfl (by simp[rd_excl,md_excl]) (fun w S=>?_);(refine Jn ?_);(refine Jn ?_)
 repeat(refine Jy ?_;try first|intro ao cap|intro b)
 (refine Jc ?_;refine OpT.call0_ (spec:=pop_is fb cb ab (up m q) r z (by omega)) (t:=Jx) (k:=?_);intro s hs;(refine Jn ?_));obtain⟨y,rfl⟩:∃y,y=s:=⟨_,rfl⟩;have hyl:y.st.length≤300:=len_of hs (Nat.le_trans (pop_le _) (show(flow r z).stack.length≤300 from hl));rw[←hs]at hF;generalize(Ver.pop (flow r z)).1=v at *;clear hs
 by_cases hv:v≠1∧v≠2
 ·rw[if_pos hv]at hF;obtain⟨hv1,hv2⟩:=hv
  repeat(refine Jy ?_;try first|intro ao cap|intro b)
  (refine Jc ?_;refine OpT.call0_ (spec:=fail_is fb cb ab (up m q) r y 9) (t:=Jx) (k:=?_);intro s hs;(refine Jn ?_))
  repeat(refine Jy ?_;try first|intro ao cap|intro b)
  (refine Jc ?_;refine OpT.call0_ (spec:=want_is fb cb ab (up m q) r (failE 9 y) _ 1 _ [v] rfl (by omega) (by show y.st.length≤1000;omega)) (t:=Jx) (k:=?_);intro s hs;(refine Jn ?_));obtain⟨x,rfl⟩:∃x,x=s:=⟨_,rfl⟩;have hx:=hs;have hxl:x.st.length≤300:=len_of hs (Nat.le_trans (want_le _ _) hyl);rw[flow_fail]at hx;clear hs
  repeat(refine Jy ?_;try first|intro ao cap|intro b)
  (refine Jc ?_;refine OpT.call0_ (spec:=push_is fb cb ab (up m q) r x 2 (by omega)) (t:=Jx) (k:=?_);intro s hs;(refine Jn ?_))
  repeat(refine Jy ?_;try first|intro ao cap|intro b)
  (refine End.done1_ ((r,s)) (he:=Jv) (hp:=?_));simp only;rw[hF,hs,hx]
 ·rw[if_neg hv]at hF
  by_cases hv1:v=1
  ·repeat(refine Jy ?_;try first|intro ao cap|intro b)
   (refine Jc ?_;refine OpT.call0_ (spec:=want_is fb cb ab (up m q) r y _ 1 _ [v] rfl (by omega) (by omega)) (t:=Jx) (k:=?_);intro s hs;(refine Jn ?_));obtain⟨x,rfl⟩:∃x,x=s:=⟨_,rfl⟩;have hx:=hs;have hxl:x.st.length≤300:=len_of hs (Nat.le_trans (want_le _ _) hyl);clear hs
   repeat(refine Jy ?_;try first|intro ao cap|intro b)
   (refine Jc ?_;refine OpT.call0_ (spec:=push_is fb cb ab (up m q) r x 2 (by omega)) (t:=Jx) (k:=?_);intro s hs;(refine Jn ?_))
   repeat(refine Jy ?_;try first|intro ao cap|intro b)
   (refine End.done1_ ((r,s)) (he:=Jv) (hp:=?_));simp only;rw[hF,hs,hx]
  ·have hv2:v=2:=by omega
   repeat(refine Jy ?_;try first|intro ao cap|intro b)
   (refine Jc ?_;refine OpT.call0_ (spec:=want_is fb cb ab (up m q) r y _ 1 _ [v] rfl (by omega) (by omega)) (t:=Jx) (k:=?_);intro s hs;(refine Jn ?_));obtain⟨x,rfl⟩:∃x,x=s:=⟨_,rfl⟩;have hx:=hs;have hxl:x.st.length≤300:=len_of hs (Nat.le_trans (want_le _ _) hyl);clear hs
   repeat(refine Jy ?_;try first|intro ao cap|intro b)
   (refine Jc ?_;refine OpT.call0_ (spec:=push_is fb cb ab (up m q) r x 2 (by omega)) (t:=Jx) (k:=?_);intro s hs;(refine Jn ?_))
   repeat(refine Jy ?_;try first|intro ao cap|intro b)
   (refine End.done1_ ((r,s)) (he:=Jv) (hp:=?_));simp only;rw[hF,hs,hx]
theorem step_21(a n:Int)(hh:r.has.length≤1000)(hto:r.todo.length≤1000000000)(hent:∀x,mfind r.ents a=some x→x.st.length≤1000∧x.hs.length=r.has.length):StepFn fb cb ab mb m r z q ⟨21,a,n⟩:=by
 obtain⟨F,hF⟩:∃F,F=Ver.to (m.us.getD q default).u.code.length a (flow r z):=⟨_,rfl⟩;have e:Ver.step m.mdl (m.us.getD q default).u ⟨21,a,n⟩ (flow r z)=(false,F):=by
  unfold Ver.step;dsimp only;(repeat rw[if_neg (by omega)]);rw[if_pos (by omega)];rw[hF]
 unfold StepFn;rw[e];clear e;refine Fn.enter (args:=[ptr fb, .agg #[.int .i64 21, .int .i64 a, .int .i64 n]]) Try.func32 rfl _ Try.ntmps32 rfl (by simp[rd_excl,md_excl]) (fun w S=>?_);(refine Jn ?_);(refine Jn ?_)
 repeat(refine Jy ?_;try first|intro ao cap|intro b)
 (refine Jc ?_;refine OpT.call0_ (spec:=to_is fb cb ab m q hq r z a (by omega) hh hto hent) (t:=Jx) (k:=?_);intro s hs;(refine Jn ?_))
 repeat(refine Jy ?_;try first|intro ao cap|intro b)
 (refine End.done1_ (s) (he:=Jv) (hp:=?_));exact hs.trans hF.symm
theorem step_22(a n:Int)(hh:r.has.length≤1000)(hto:r.todo.length≤1000000000)(hent:∀x,mfind r.ents a=some x→x.st.length≤1000∧x.hs.length=r.has.length):StepFn fb cb ab mb m r z q ⟨22,a,n⟩:=by
 obtain⟨F,hF⟩:∃F,F=Ver.to (m.us.getD q default).u.code.length a (Ver.want [2] (flow r z)):=⟨_,rfl⟩;have e:Ver.step m.mdl (m.us.getD q default).u ⟨22,a,n⟩ (flow r z)=(true,F):=by
  unfold Ver.step;dsimp only;(repeat rw[if_neg (by omega)]);rw[if_pos (by omega)];rw[hF]
 unfold StepFn;rw[e];clear e;refine Fn.enter (args:=[ptr fb, .agg #[.int .i64 22, .int .i64 a, .int .i64 n]]) Try.func32 rfl _ Try.ntmps32 rfl (by simp[rd_excl,md_excl]) (fun w S=>?_);(refine Jn ?_);(refine Jn ?_)
 repeat(refine Jy ?_;try first|intro ao cap|intro b)
 (refine Jc ?_;refine OpT.call0_ (spec:=want_is fb cb ab (up m q) r z _ 1 _ [2] rfl (by omega) (by omega)) (t:=Jx) (k:=?_);intro s hs;(refine Jn ?_));obtain⟨y,rfl⟩:∃y,y=s:=⟨_,rfl⟩;have hy:=hs;have hyl:y.st.length≤300:=len_of hs (Nat.le_trans (want_le _ _) (show(flow r z).stack.length≤300 from hl));clear hs
 repeat(refine Jy ?_;try first|intro ao cap|intro b)
 (refine Jc ?_;refine OpT.call0_ (spec:=to_is fb cb ab m q hq r y a (by omega) hh hto hent) (t:=Jx) (k:=?_);intro s hs;(refine Jn ?_))
 repeat(refine Jy ?_;try first|intro ao cap|intro b)
 (refine End.done1_ (s) (he:=Jv) (hp:=?_));rw[hF,←hy];exact hs
theorem step_23(op a n:Int)(hop:23≤op)(hsp:SpecFn fb cb ab mb m r z q ⟨op,a,n⟩):StepFn fb cb ab mb m r z q ⟨op,a,n⟩:=by
 have e:Ver.step m.mdl (m.us.getD q default).u ⟨op,a,n⟩ (flow r z)=Ver.special m.mdl (m.us.getD q default).u ⟨op,a,n⟩ (flow r z):=by
  unfold Ver.step;dsimp only;(repeat rw[if_neg (by omega)])
 unfold StepFn;unfold SpecFn at hsp;rw[e];clear e;generalize Ver.special m.mdl (m.us.getD q default).u ⟨op,a,n⟩ (flow r z)=F at *;refine Fn.enter (args:=[ptr fb, .agg #[.int .i64 op, .int .i64 a, .int .i64 n]]) Try.func32 rfl _ Try.ntmps32 rfl (by simp[rd_excl,md_excl]) (fun w S=>?_);(refine Jn ?_);(refine Jn ?_)
 repeat(refine Jy ?_;try first|intro ao cap|intro b)
 (refine Jc ?_;refine OpT.call0_ (spec:=hsp) (t:=Jx) (k:=?_);intro s hs;(refine Jn ?_))
 repeat(refine Jy ?_;try first|intro ao cap|intro b)
 (refine End.done1_ ((r,s)) (he:=Jv) (hp:=?_));exact hs
end
set_option maxHeartbeats 1000000 in
theorem head_is(cb mb:Nat)(m:ML)(k:Nat)(hk:k<m.us.length)(hl:∀t∈(m.us.getD k default).u.locals,ImgM.In64 t)(hlen:(m.us.getD k default).u.locals.length≤9223372036854775807):Fn Try.prog 28 #[ptr cb,up m k] [md m] (ck cb mb m) (σ:=Unit) (fun _=>True) (fun _=> .int .i64 (Ver.head m.mdl (m.us.getD k default).u)) (fun _=>ck cb mb m):=by
 refine Fn.enter (args:=[ptr cb,up m k]) Try.func28 rfl _ Try.ntmps28 rfl (by simp[rd_excl,md_excl]) (fun w S=>?_);(refine Jn ?_)
 repeat' (first|(refine Jc ?_;refine OpT.call0_ (spec:=plain_is _) (k:=?_);intro s hs;(refine Jn ?_))|(refine Jc ?_;refine OpT.call0_ (spec:=containsFuncI_is _ _ _ _ rfl hlen _ [ptr _] (md m) md_excl (blk _ [ptr cb] 50::ck cb mb m) (by simp[blk_excl]) (fun t=>!Ver.plain t&& !Ver.handle m.mdl t) (by kernel_rfl) (fun x hx=>head1_is cb mb _ m x (hl x hx))) (k:=?_);intro s hs;(refine Jn ?_))|refine Jo ?_|(refine JB ?_;intro b)|(refine JA ?_;intro ao cap)|refine goQ (k:=fun h=>?_) (k':=fun h=>?_)|fail)
 all_goals ((refine End.done1_ (()) (he:=by(refine int_eq ?_;generalize(m.us.getD k default).u=u at *;generalize m.mdl=M at *;unfold Ver.head;(repeat' split);all_goals (first|rfl|omega|(simp_all;done)|(simp_all;omega)))) (hp:=?_));trivial)
end Go.Proofs.Ytgnhfinabhimpaa.Vw
