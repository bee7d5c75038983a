/- verify's flow, walked: what is done with the stack. -/
import Derived.Test.YtgnhfinabhimpaaM14
set_option linter.unusedVariables false
set_option linter.unusedSimpArgs false
set_option linter.unusedSectionVars false
set_option maxRecDepth 100000
namespace Go.Proofs.Ytgnhfinabhimpaa.Vw
open Go.RowKit Go.Proofs.Ytgnhfinabhimpaa.Img
attribute [local irreducible] Run Cod End OpT Still RunQ RunS RunT Fn PutOk
structure SH where
 st:List Int
 so:Option Addr
 sc:Nat
 hs:List Bool
 ho:Option Addr
 hc:Nat
instance:Inhabited SH:=⟨⟨[],none,0,[],none,0⟩⟩
def shV(x:SH):Value:= .agg #[.slice x.so x.st.length x.sc, .slice x.ho x.hs.length x.hc]
structure FS where
 st:List Int
 so:Option Addr
 sc:Nat
 err:Int
structure FR where
 ents:List (Int×SH)
 todo:List Int
 to_:Option Addr
 tc:Nat
 has:List Bool
 ho:Option Addr
 hc:Nat
def FR.at_(r:FR):List (Int×Ver.Shape):=r.ents.map fun p=>(p.1,(p.2.st,p.2.hs))
def flow(r:FR)(s:FS):Ver.Flow:=⟨r.at_,r.todo,s.st,r.has,s.err⟩
abbrev fcells(cb ab:Nat)(u:Value)(r:FR)(s:FS):List Value:=
 [.pointer (some ⟨cb,0,none⟩),u, .map (some ab), .slice r.to_ r.todo.length r.tc, .slice s.so s.st.length s.sc, .slice r.ho r.has.length r.hc, .int .i64 s.err]
abbrev fm(fb cb ab:Nat)(u:Value)(r:FR)(s:FS):List Chunk:=[blk fb (fcells cb ab u r s) 92,arr s.so s.st.length s.sc 3 i64c s.st]
abbrev errE(e e0:Int):Int:=if e0=0 then e else e0
abbrev failE(e:Int)(s:FS):FS:=⟨s.st,s.so,s.sc,errE e s.err⟩
theorem flow_fail(r:FR)(s:FS)(e:Int):flow r (failE e s)=Ver.fail e (flow r s):=by
 unfold Ver.fail flow
 by_cases h:s.err=0<;>simp[h]
theorem fail_is'(fb cb ab:Nat)(u:Value)(r:FR)(z:FS)(e E:Int)(hE:errE e z.err=E):Fn Try.prog 61 #[ptr fb, .int .i64 e] [] [blk fb (fcells cb ab u r z) 92] (σ:=Unit) (fun _=>True) (fun _=> .tuple #[]) (fun _=>[blk fb (fcells cb ab u r ⟨z.st,z.so,z.sc,E⟩) 92]):=by
 by_cases h0:z.err=0
 ·obtain rfl:E=e:=by rw[←hE];exact if_pos h0
  refine Fn.enter (args:=[ptr fb, .int .i64 E]) Try.func61 rfl _ Try.ntmps61 rfl (by simp[rd_excl,md_excl]) (fun w S=>?_);(refine Jn ?_)
  repeat(refine Jy ?_;try first|intro ao cap|intro b)
  (refine End.done0'_ (()) (hp:=?_));trivial
 ·obtain rfl:E=z.err:=by rw[←hE];exact if_neg h0
  refine Fn.enter (args:=[ptr fb, .int .i64 e]) Try.func61 rfl _ Try.ntmps61 rfl (by simp[rd_excl,md_excl]) (fun w S=>?_);(refine Jn ?_)
  repeat(refine Jy ?_;try first|intro ao cap|intro b)
  (refine End.done0'_ (()) (hp:=?_));trivial
theorem fail_is(fb cb ab:Nat)(u:Value)(r:FR)(z:FS)(e:Int):Fn Try.prog 61 #[ptr fb, .int .i64 e] [] [blk fb (fcells cb ab u r z) 92] (σ:=Unit) (fun _=>True) (fun _=> .tuple #[]) (fun _=>[blk fb (fcells cb ab u r (failE e z)) 92]):=fail_is' fb cb ab u r z e _ rfl
theorem pop_is(fb cb ab:Nat)(u:Value)(r:FR)(z:FS)(hl:z.st.length≤1000):Fn Try.prog 67 #[ptr fb] [] (fm fb cb ab u r z) (fun z'=>flow r z'=(Ver.pop (flow r z)).2) (fun _=> .int .i64 (Ver.pop (flow r z)).1) (fun z'=>fm fb cb ab u r z'):=by
 by_cases h0:z.st.length=0
 ·have hp:Ver.pop (flow r z)=(0,Ver.fail 12 (flow r z)):=by unfold Ver.pop;exact if_pos h0
  rw[hp];refine Fn.enter (args:=[ptr fb]) Try.func67 rfl _ Try.ntmps67 rfl (by simp[rd_excl,md_excl]) (fun w S=>?_);(refine Jn ?_)
  repeat(refine Jy ?_;try first|intro ao cap|intro b)
  (apply Run.op;exact rfl;refine JK (fail_is fb cb ab u r z 12) ?_;intro s hs;(refine Jn ?_))
  repeat(refine Jy ?_;try first|intro ao cap|intro b)
  (refine End.done1_ ((failE 12 z)) (he:=Jv) (hp:=?_));exact flow_fail r z 12
 ·have hp:Ver.pop (flow r z)=(z.st.getD (z.st.length-1) default,{flow r z with stack:=z.st.take (z.st.length-1)}):=by unfold Ver.pop;exact if_neg h0
  rw[hp];have hn:IntKind.i64.wrap ((z.st.length:Int)-1)=((z.st.length-1:Nat):Int):=by rw[wrap_i64_in (by omega)];omega
  have hlen:(z.st.take (z.st.length-1)).length=z.st.length-1:=by simp
  refine Fn.enter (args:=[ptr fb]) Try.func67 rfl _ Try.ntmps67 rfl (by simp[rd_excl,md_excl]) (fun w S=>?_);(refine Jn ?_)
  repeat(refine Jy ?_;try first|intro ao cap|intro b)
  (refine End.done1_ ((⟨z.st.take (z.st.length-1),ao,cap,z.err⟩:FS)) (he:=Jv) (ht:=Jx) (hp:=?_));rfl
theorem push_is(fb cb ab:Nat)(u:Value)(r:FR)(z:FS)(t:Int)(hl:z.st.length≤1000):Fn Try.prog 65 #[ptr fb, .int .i64 t] [] (fm fb cb ab u r z) (fun z'=>flow r z'=Ver.push t (flow r z)) (fun _=> .tuple #[]) (fun z'=>fm fb cb ab u r z'):=by
 by_cases h0:300<z.st.length+1
 ·have hp:Ver.push t (flow r z)=Ver.fail 4 {flow r z with stack:=z.st ++[t]}:=by unfold Ver.push;exact if_pos h0
  rw[hp];refine Fn.enter (args:=[ptr fb, .int .i64 t]) Try.func65 rfl _ Try.ntmps65 rfl (by simp[rd_excl,md_excl]) (fun w S=>?_);(refine Jn ?_)
  repeat(refine Jy ?_;try first|intro ao cap|intro b)
  (refine Jc ?_;refine OpT.call0_ (spec:=fail_is fb cb ab u r ⟨z.st ++[t],ao,cap,z.err⟩ 4) (t:=Jx) (k:=?_);intro s hs;(refine Jn ?_))
  repeat(refine Jy ?_;try first|intro ao cap|intro b)
  (refine End.done0'_ (failE 4 ⟨z.st ++[t],ao,cap,z.err⟩) (ht:=Jx) (hp:=?_));exact flow_fail r ⟨z.st ++[t],ao,cap,z.err⟩ 4
 ·have hp:Ver.push t (flow r z)={flow r z with stack:=z.st ++[t]}:=by unfold Ver.push;exact if_neg h0
  rw[hp];refine Fn.enter (args:=[ptr fb, .int .i64 t]) Try.func65 rfl _ Try.ntmps65 rfl (by simp[rd_excl,md_excl]) (fun w S=>?_);(refine Jn ?_)
  repeat(refine Jy ?_;try first|intro ao cap|intro b)
  (refine End.done0'_ ((⟨z.st ++[t],ao,cap,z.err⟩:FS)) (ht:=Jx) (hp:=?_));rfl
theorem done_is(fb cb ab:Nat)(u:Value)(r:FR)(z:FS)(hl:z.st.length≤1000):Fn Try.prog 89 #[ptr fb] [] (fm fb cb ab u r z) (fun z'=>flow r z'=Ver.done (flow r z)) (fun _=> .bool false) (fun z'=>fm fb cb ab u r z'):=by
 by_cases h0:z.st.length=0
 ·have hp:Ver.done (flow r z)=flow r z:=by unfold Ver.done;exact if_pos h0
  rw[hp];refine Fn.enter (args:=[ptr fb]) Try.func89 rfl _ Try.ntmps89 rfl (by simp[rd_excl,md_excl]) (fun w S=>?_);(refine Jn ?_)
  repeat(refine Jy ?_;try first|intro ao cap|intro b)
  (refine End.done1_ (z) (he:=Jv) (hp:=?_));rfl
 ·have hp:Ver.done (flow r z)=Ver.fail 12 (flow r z):=by unfold Ver.done;exact if_neg h0
  rw[hp];refine Fn.enter (args:=[ptr fb]) Try.func89 rfl _ Try.ntmps89 rfl (by simp[rd_excl,md_excl]) (fun w S=>?_);(refine Jn ?_)
  repeat(refine Jy ?_;try first|intro ao cap|intro b)
  (apply Run.op;exact rfl;refine JK (fail_is fb cb ab u r z 12) ?_;intro s hs;(refine Jn ?_))
  repeat(refine Jy ?_;try first|intro ao cap|intro b)
  (refine End.done1_ (failE 12 z) (he:=Jv) (hp:=?_));exact flow_fail r z 12
theorem pop_le(f:Ver.Flow):(Ver.pop f).2.stack.length≤f.stack.length:=by
 unfold Ver.pop Ver.fail
 split
 ·split<;>simp
 ·simp
theorem want1_le(t:Int)(f:Ver.Flow):(Ver.want1 t f).stack.length≤f.stack.length:=by
 have:=pop_le f;unfold Ver.want1
 split
 ·unfold Ver.fail;split<;>exact this
 ·exact this
theorem want_le(l:List Int)(f:Ver.Flow):(Ver.want l f).stack.length≤f.stack.length:=by
 induction l with
 |nil=>exact Nat.le_refl _
 |cons t r ih=>exact Nat.le_trans (want1_le t _) ih
theorem want_is(fb cb ab:Nat)(u:Value)(r:FR)(z:FS)(ao:Option Addr)(n cap:Nat)(l:List Int)(hn:l.length=n)(hn2:n≤1000)(hl:z.st.length≤1000):
  Fn Try.prog 66 #[ptr fb, .slice ao n cap] [rd ao n cap i64c l] (fm fb cb ab u r z) (fun z'=>flow r z'=Ver.want l (flow r z)) (fun _=> .tuple #[]) (fun z'=>fm fb cb ab u r z'):=by
 refine Fn.enter (args:=[ptr fb, .slice ao n cap]) Try.func66 rfl _ Try.ntmps66 rfl (by simp[rd_excl,md_excl]) (fun w S=>?_);(refine Jn ?_)
 repeat(refine Jy ?_;try first|intro ao cap|intro b)
 apply Cod.loop (σ:=Nat×FS) (fun s=>s.1≤n∧flow r s.2=Ver.want (l.drop s.1) (flow r z)) (fun s=>[(0,ptr fb),(1, .slice ao n cap),(4, .int .i64 ((s.1:Int)-1))]) (fun s=>old w S::rd ao n cap i64c l::fm fb cb ab u r s.2) (fun s=>s.1) (n,z)
 rotate_left
 exact sb;exact tks;intro s hs K hK;(refine Jn ?_)
 rotate_left
 ·exact⟨Nat.le_refl _,by rw[List.drop_of_length_le (by simp only;omega)];rfl⟩
 obtain⟨k,y⟩:=s;obtain⟨hk,hy⟩:=hs;simp only at hk hy hK⊢;have hyl:y.st.length≤1000:=by
  have h1:=want_le (l.drop k) (flow r z);rw[←hy]at h1;exact Nat.le_trans h1 hl
 by_cases hk0:k=0
 ·subst hk0
  repeat(refine Jy ?_;try first|intro ao cap|intro b)
  (refine End.done0'_ (y) (hp:=?_));exact hy
 ·obtain⟨j,rfl⟩:∃j,k=j+1:=⟨k-1,by omega⟩;have hd:Ver.want (l.drop j) (flow r z)=Ver.want1 (l.getD j default) (flow r y):=by rw[drop_cons (by omega),hy];rfl
  have hj:(((j+1:Nat):Int)-1)=(j:Int):=by omega
  rw[hj]
  repeat(refine Jy ?_;try first|intro ao cap|intro b)
  (apply Run.op;exact rfl;refine JK (pop_is fb cb ab u r y hyl) ?_;intro s hs;(refine Jn ?_))
  by_cases hv:(Ver.pop (flow r y)).1=l.getD j default
  ·repeat(refine Jy ?_;try first|intro ao cap|intro b)
   refine End.round_ hK (j,s) ?_ ?_
   ·refine⟨by simp only;omega,?_⟩;rw[hd,Ver.want1,if_neg (fun h=>h hv)];exact hs
   ·simp only;omega
  ·repeat(refine Jy ?_;try first|intro ao cap|intro b)
   obtain⟨y',rfl⟩:∃y',y'=s:=⟨_,rfl⟩;have hy1:=hs;(apply Run.op;exact rfl;refine JK (fail_is fb cb ab u r y' 9) ?_;intro s hs;(refine Jn ?_))
   repeat(refine Jy ?_;try first|intro ao cap|intro b)
   refine End.round_ hK (j,failE 9 y') ?_ ?_
   ·refine⟨by simp only;omega,?_⟩;rw[hd,Ver.want1,if_pos hv,flow_fail,hy1]
   ·simp only;omega
structure Ok(M:ImgM.Mdl):Prop where
 boxes:M.boxes.length≤30
 units:M.units.length≤30
 head:∀k,k<M.units.length→Ver.head M (M.units.getD k default)=0
 instr:∀k,k<M.units.length→∀i∈(M.units.getD k default).code,Ver.instr M (M.units.getD k default) i=0
theorem head_ok{M:ImgM.Mdl}{u:ImgM.Unt}(h:Ver.head M u=0):u.locals.length≤200∧0≤u.params∧u.params≤6∧u.params≤u.locals.length∧1≤u.code.length∧u.code.length≤4000:=by
 unfold Ver.head at h
 split at h
 ·cases h
 split at h
 ·cases h
 split at h
 ·cases h
 omega
theorem args_is(fb cb ab mb:Nat)(u:Value)(m:ML)(r:FR)(z:FS)(hl:z.st.length≤1000)(k:Nat)(hk:k<m.us.length)(hh:Ver.head m.mdl (m.us.getD k default).u=0):
  Fn Try.prog 88 #[ptr fb, .int .i64 (k:Int)] [md m] (fm fb cb ab u r z ++ck cb mb m) (fun z'=>flow r z'=Ver.args m.mdl k (flow r z)) (fun _=>up m k) (fun z'=>fm fb cb ab u r z' ++ck cb mb m):=by
 obtain⟨h1,h2,h3,h4,h5,h6⟩:=head_ok hh;have ha:Ver.args m.mdl k (flow r z)=Ver.want ((m.us.getD k default).u.locals.take (m.us.getD k default).u.params.toNat) (flow r z):=by
  unfold Ver.args;rw[Int.toNat_natCast,ML.unit_at]
 rw[ha];refine Fn.enter (args:=[ptr fb, .int .i64 (k:Int)]) Try.func88 rfl _ Try.ntmps88 rfl (by simp[rd_excl,md_excl]) (fun w S=>?_);(refine Jn ?_);(refine Jn ?_)
 repeat(refine Jy ?_;try first|intro ao cap|intro b)
 apply Cod.draw 10 ([md m,blk fb (fcells cb ab u r z) 92,blk cb [.pointer (some ⟨mb,0,none⟩)] 53,blk mb [.slice m.bo m.bx.length m.bc, .slice m.uo m.us.length m.uc] 25]) (by kernel_rfl) 11 rfl;refine JR 0 ?_;refine JR 1 ?_;refine JR 2 ?_;refine JR 3 ?_;refine JR 4 ?_;refine JR 5 ?_;refine JR 6 ?_;refine JR 7 ?_;refine JR 8 ?_;(refine JT 9 ?_;refine OpT.cutMdL_ (m:=m) (k:=k) (kk:=?_);intro ao cap;refine And.intro gud ?_;(refine Jn ?_));(refine JT 10 ?_;refine OpT.call0_ (spec:=want_is fb cb ab u r z ao _ cap ((m.us.getD k default).u.locals.take (m.us.getD k default).u.params.toNat) (List.length_take_of_le (by omega)) (by omega) hl) (k:=?_);intro s hs;refine And.intro gud ?_;(refine Jn ?_));(apply RunT.done;kernel_rfl)
 repeat(refine Jy ?_;try first|intro ao cap|intro b)
 (refine End.done1_ (s) (he:=Jv) (hp:=?_));exact hs
theorem copied_is(x:SH)(h1:x.st.length≤1000000)(h2:x.hs.length≤1000000):Fn Try.prog 31 #[shV x] [rd x.so x.st.length x.sc i64c x.st,rd x.ho x.hs.length x.hc boolc x.hs] [] (fun y:SH=>y.st=x.st∧y.hs=x.hs) shV (fun y=>[arr y.so y.st.length y.sc 3 i64c y.st,arr y.ho y.hs.length y.hc 4 boolc y.hs]):=by
 refine Fn.enter (args:=[shV x]) Try.func31 rfl _ Try.ntmps31 rfl (by simp[rd_excl,md_excl]) (fun w S=>?_);(refine Jn ?_)
 repeat(refine Jy ?_;try first|intro ao cap|intro b)
 rename_i b1
 apply Cod.draw 7 ([blk b1 [.slice x.so x.st.length x.sc, .slice x.ho x.hs.length x.hc] 90]) (by kernel_rfl) 8 rfl;refine JR 0 ?_;refine JR 1 ?_;refine JR 3 ?_;refine JR 4 ?_;(refine JT 2 ?_;refine JK (cloneI_is x.so x.st.length x.sc x.st rfl (by omega)) ?_;intro s hs;refine And.intro gud ?_;(refine Jn ?_));obtain⟨ao,ac⟩:=s;(refine JT 5 ?_;refine JK (cloneB_is x.ho x.hs.length x.hc x.hs rfl (by omega)) ?_;intro s hs;refine And.intro gud ?_;(refine Jn ?_));obtain⟨bo,bc⟩:=s;refine JR 6 ?_;(refine JT 7 ?_;(first|refine Jw ?_|(refine Jb ?_;intro b)|(refine Ja ?_;intro ao cap));refine And.intro gud ?_);(apply RunT.done;kernel_rfl)
 repeat(refine Jy ?_;try first|intro ao cap|intro b)
 (refine End.doneC1_ ((⟨x.st,ao,ac,x.hs,bo,bc⟩:SH)) (he:=by rfl) (hp:=?_));exact⟨rfl,rfl⟩
theorem pop_mem(f:Ver.Flow)(h:∀t∈f.stack,ImgM.In64 t):ImgM.In64 (Ver.pop f).1:=by
 unfold Ver.pop
 split
 ·unfold ImgM.In64;simp only;omega
 ·refine h _ ?_;rw[List.getD_eq_getElem?_getD,List.getElem?_eq_getElem (by omega)];exact List.getElem_mem _
def genV(m:ML):Option Int→Value
 |none=> .pointer none
 |some k=>up m k.toNat
theorem gen_is(fb cb ab mb:Nat)(u:Value)(m:ML)(r:FR)(z:FS)(hl:z.st.length≤1000)(ht:∀t∈z.st,ImgM.In64 t):
  Fn Try.prog 90 #[ptr fb] [md m] (fm fb cb ab u r z ++ck cb mb m) (fun z'=>flow r z'=(Ver.gen m.mdl (flow r z)).2) (fun _=>genV m (Ver.gen m.mdl (flow r z)).1) (fun z'=>fm fb cb ab u r z' ++ck cb mb m):=by
 refine Fn.enter (args:=[ptr fb]) Try.func90 rfl _ Try.ntmps90 rfl (by simp[rd_excl,md_excl]) (fun w S=>?_);(refine Jn ?_);(refine Jn ?_)
 repeat(refine Jy ?_;try first|intro ao cap|intro b)
 (apply Run.op;exact rfl;refine JK (pop_is fb cb ab u r z hl) ?_;intro s hs;(refine Jn ?_));have ht':=pop_mem (flow r z) ht;generalize hp:(Ver.pop (flow r z)).1=t at *;have hg:Ver.gen m.mdl (flow r z)=if s.err≠0 then(none,flow r s)else if Ver.handle m.mdl t=false then(none,Ver.fail 9 (flow r s))else(some (t-10),flow r s):=by
  unfold Ver.gen;rw[←hs,hp];rfl
 obtain⟨y,rfl⟩:∃y,y=s:=⟨_,rfl⟩;clear hs
 by_cases he:y.err=0
 ·rw[if_neg (fun h=>h he)]at hg
  repeat(refine Jy ?_;try first|intro ao cap|intro b)
  (apply Run.op;exact rfl;refine JK (handle_is cb mb m t ht') ?_;intro s hs;(refine Jn ?_))
  cases hh:Ver.handle m.mdl t with
  |false=>
   rw[hh,if_pos rfl]at hg;rw[hg]
   repeat(refine Jy ?_;try first|intro ao cap|intro b)
   (apply Run.op;exact rfl;refine JK (fail_is fb cb ab u r y 9) ?_;intro s hs;(refine Jn ?_))
   repeat(refine Jy ?_;try first|intro ao cap|intro b)
   (refine End.done1_ (failE 9 y) (he:=Jv) (hp:=?_));exact flow_fail r y 9
  |true=>
   rw[hh,if_neg (by decide)]at hg;rw[hg];unfold ImgM.In64 at ht';have hh':=hh;simp only[Ver.handle,Ver.isUnit,Bool.and_eq_true,decide_eq_true_eq,List.length_map]at hh';obtain⟨g1,⟨g2,g3⟩,g4⟩:=hh';clear g4
   repeat(refine Jy ?_;try first|intro ao cap|intro b)
   (refine End.done1_ (y) (he:=by rfl) (hp:=?_));rfl
 ·rw[if_pos he]at hg;rw[hg]
  repeat(refine Jy ?_;try first|intro ao cap|intro b)
  (refine End.done1_ (y) (he:=Jv) (hp:=?_));rfl
theorem len_of{r:FR}{s:FS}{g:Ver.Flow}(h:flow r s=g){N:Nat}(hg:g.stack.length≤N):s.st.length≤N:=by
 have:s.st=g.stack:=congrArg Ver.Flow.stack h;rw[this];exact hg
theorem fail_len(e:Int)(f:Ver.Flow):(Ver.fail e f).stack.length=f.stack.length:=by unfold Ver.fail;split<;>rfl
theorem args_le(M:ImgM.Mdl)(k:Int)(f:Ver.Flow):(Ver.args M k f).stack.length≤f.stack.length:=want_le _ _
theorem isUnit_ok{M:ImgM.Mdl}{i kind:Int}(h:Ver.isUnit M i kind=true):∃k:Nat,i=(k:Int)∧k<M.units.length∧(M.units.getD k default).kind=kind:=by
 simp only[Ver.isUnit,Bool.and_eq_true,decide_eq_true_eq]at h;obtain⟨⟨h1,h2⟩,h3⟩:=h;exact⟨i.toNat,by omega,by omega,h3⟩
theorem gen_le(M:ImgM.Mdl)(f:Ver.Flow){N:Nat}(h:f.stack.length≤N):(Ver.gen M f).2.stack.length≤N:=by
 have:=pop_le f;unfold Ver.gen
 split
 ·simp only;omega
 split
 ·simp only[fail_len];omega
 ·simp only;omega
theorem pop_sub(f:Ver.Flow):∀t∈(Ver.pop f).2.stack,t∈f.stack:=by
 unfold Ver.pop
 split
 ·unfold Ver.fail;split<;>exact fun t h=>h
 ·exact fun t h=>List.mem_of_mem_take h
theorem gen_ok(M:ImgM.Mdl)(f:Ver.Flow):∀k,(Ver.gen M f).1=some k→∃j:Nat,k=(j:Int)∧j<M.units.length:=by
 unfold Ver.gen
 split
 ·intro k h;cases h
 split
 ·intro k h;cases h
 ·intro k h
  rename_i h2
  simp only[Option.some.injEq]at h;subst h;have h3:Ver.handle M (Ver.pop f).1=true:=by simpa using h2
  simp only[Ver.handle,Bool.and_eq_true]at h3;obtain⟨j,h4,h5, -⟩:=isUnit_ok h3.2;exact⟨j,h4,h5⟩
theorem Run.look{P:Program}{ops:Array Oper}{Q:Exit→Act→World→Prop}{N d:Nat}{l:List Oper}{E:Env}{L:List Chunk}{v v':Value}(h:Proofs.Ytgnhfinabhimpaa.look E d=some v)(e:v=v')(k:Run P ops Q N l ((d,v')::E) L):Run P ops Q N l E L:=by
 subst e;unfold Run at k⊢;exact fun a w hs hm=>k a w (hs.sub' h) hm
section
variable(fb cb ab mb:Nat)(m:ML)(r:FR)(z:FS)(q:Nat)(hq:q<m.us.length)(hl:z.st.length≤300)(hst:∀t∈z.st,ImgM.In64 t)
abbrev SpecFn(i:ImgM.Ins):Prop:=Fn Try.prog 68 #[ptr fb,insV i] [md m] (fm fb cb ab (up m q) r z ++ck cb mb m) (fun z'=>flow r z'=(Ver.special m.mdl (m.us.getD q default).u i (flow r z)).2) (fun _=> .bool (Ver.special m.mdl (m.us.getD q default).u i (flow r z)).1) (fun z'=>fm fb cb ab (up m q) r z' ++ck cb mb m)
include hl hst hq
theorem special_23(k:Nat)(n:Int)(hk:k<m.us.length)(hh:Ver.head m.mdl (m.us.getD k default).u=0):SpecFn fb cb ab mb m r z q ⟨23,k,n⟩:=by
 have e:Ver.special m.mdl (m.us.getD q default).u ⟨23,k,n⟩ (flow r z)=(true,Ver.push (m.us.getD k default).u.result (Ver.args m.mdl k (flow r z))):=by
  unfold Ver.special;rw[if_pos rfl,Int.toNat_natCast,ML.unit_at]
 unfold SpecFn;rw[e];refine Fn.enter (args:=[ptr fb, .agg #[.int .i64 23, .int .i64 (k:Int), .int .i64 n]]) Try.func68 rfl _ Try.ntmps68 rfl (by simp[rd_excl,md_excl]) (fun w S=>?_);(refine Jn ?_);(refine Jn ?_)
 repeat(refine Jy ?_;try first|intro ao cap|intro b)
 (refine Jc ?_;refine OpT.call0_ (spec:=args_is fb cb ab mb (up m q) m r z (by omega) k hk hh) (t:=Jx) (k:=?_);intro s hs;(refine Jn ?_));obtain⟨y,rfl⟩:∃y,y=s:=⟨_,rfl⟩;have hy:=hs;have hyl:=len_of hs (Nat.le_trans (args_le _ _ _) (show(flow r z).stack.length≤300 from hl))
 repeat(refine Jy ?_;try first|intro ao cap|intro b)
 (refine Jc ?_;refine OpT.call0_ (spec:=push_is fb cb ab (up m q) r y (m.us.getD k default).u.result (by omega)) (t:=Jx) (k:=?_);intro s hs;(refine Jn ?_))
 repeat(refine Jy ?_;try first|intro ao cap|intro b)
 (refine End.done1_ (s) (he:=Jv) (hp:=?_));simp only;rw[hs,hy]
theorem special_29(k:Nat)(n:Int)(hk:k<m.us.length)(hu30:m.us.length≤30)(hh:Ver.head m.mdl (m.us.getD k default).u=0):SpecFn fb cb ab mb m r z q ⟨29,k,n⟩:=by
 have e:Ver.special m.mdl (m.us.getD q default).u ⟨29,k,n⟩ (flow r z)=(true,Ver.push (10+(k:Int)) (Ver.args m.mdl k (flow r z))):=by
  unfold Ver.special;dsimp only;(repeat rw[if_neg (by decide)]);rw[if_pos rfl]
 unfold SpecFn;rw[e];refine Fn.enter (args:=[ptr fb, .agg #[.int .i64 29, .int .i64 (k:Int), .int .i64 n]]) Try.func68 rfl _ Try.ntmps68 rfl (by simp[rd_excl,md_excl]) (fun w S=>?_);(refine Jn ?_);(refine Jn ?_);apply Cod.fact m.Small (fun w hm=>(md_holds.1 (hm.has tk)).small);intro hsm;have hsu:(k:Int)≤1000000:=by omega
 repeat(refine Jy ?_;try first|intro ao cap|intro b)
 (refine Jc ?_;refine OpT.call0_ (spec:=args_is fb cb ab mb (up m q) m r z (by omega) k hk hh) (t:=Jx) (k:=?_);intro s hs;(refine Jn ?_));obtain⟨y,rfl⟩:∃y,y=s:=⟨_,rfl⟩;have hy:=hs;have hyl:=len_of hs (Nat.le_trans (args_le _ _ _) (show(flow r z).stack.length≤300 from hl))
 repeat(refine Jy ?_;try first|intro ao cap|intro b)
 (refine Jc ?_;refine OpT.call0_ (spec:=push_is fb cb ab (up m q) r y (10+(k:Int)) (by omega)) (t:=Jx) (k:=?_);intro s hs;(refine Jn ?_))
 repeat(refine Jy ?_;try first|intro ao cap|intro b)
 (refine End.done1_ (s) (he:=Jv) (hp:=?_));simp only;rw[hs,hy]
theorem special_24(a n:Int):SpecFn fb cb ab mb m r z q ⟨24,a,n⟩:=by
 have e:Ver.special m.mdl (m.us.getD q default).u ⟨24,a,n⟩ (flow r z)=(false,Ver.done (Ver.want [(m.us.getD q default).u.result] (if(m.us.getD q default).u.kind≠2 then Ver.fail 8 (flow r z)else flow r z))):=by
  unfold Ver.special;dsimp only;(repeat rw[if_neg (by decide)]);rw[if_pos rfl]
 unfold SpecFn;rw[e]
 by_cases hkd:(m.us.getD q default).u.kind=2
 ·rw[if_neg (fun h=>h hkd)];refine Fn.enter (args:=[ptr fb, .agg #[.int .i64 24, .int .i64 a, .int .i64 n]]) Try.func68 rfl _ Try.ntmps68 rfl (by simp[rd_excl,md_excl]) (fun w S=>?_);(refine Jn ?_);(refine Jn ?_)
  repeat(refine Jy ?_;try first|intro ao cap|intro b)
  (refine Jc ?_;refine OpT.call0_ (spec:=want_is fb cb ab (up m q) r z _ 1 _ [(m.us.getD q default).u.result] rfl (by omega) (by omega)) (t:=Jx) (k:=?_);intro s hs;(refine Jn ?_));obtain⟨y,rfl⟩:∃y,y=s:=⟨_,rfl⟩;have hy:=hs;have hyl:=len_of hs (Nat.le_trans (want_le _ _) (show(flow r z).stack.length≤300 from hl))
  repeat(refine Jy ?_;try first|intro ao cap|intro b)
  (refine Jc ?_;refine OpT.call0_ (spec:=done_is fb cb ab (up m q) r y (by omega)) (t:=Jx) (k:=?_);intro s hs;(refine Jn ?_))
  repeat(refine Jy ?_;try first|intro ao cap|intro b)
  (refine End.done1_ (s) (he:=Jv) (hp:=?_));simp only;rw[hs,hy]
 ·rw[if_pos hkd];refine Fn.enter (args:=[ptr fb, .agg #[.int .i64 24, .int .i64 a, .int .i64 n]]) Try.func68 rfl _ Try.ntmps68 rfl (by simp[rd_excl,md_excl]) (fun w S=>?_);(refine Jn ?_);(refine Jn ?_)
  repeat(refine Jy ?_;try first|intro ao cap|intro b)
  (refine Jc ?_;refine OpT.call0_ (spec:=fail_is fb cb ab (up m q) r z 8) (t:=Jx) (k:=?_);intro s hs;(refine Jn ?_))
  repeat(refine Jy ?_;try first|intro ao cap|intro b)
  (refine Jc ?_;refine OpT.call0_ (spec:=want_is fb cb ab (up m q) r (failE 8 z) _ 1 _ [(m.us.getD q default).u.result] rfl (by omega) (by show z.st.length≤1000;omega)) (t:=Jx) (k:=?_);intro s hs;(refine Jn ?_));obtain⟨y,rfl⟩:∃y,y=s:=⟨_,rfl⟩;have hy:=hs;have hyl:=len_of hs (Nat.le_trans (want_le _ _) (show(flow r z).stack.length≤300 from hl));rw[flow_fail]at hy
  repeat(refine Jy ?_;try first|intro ao cap|intro b)
  (refine Jc ?_;refine OpT.call0_ (spec:=done_is fb cb ab (up m q) r y (by omega)) (t:=Jx) (k:=?_);intro s hs;(refine Jn ?_))
  repeat(refine Jy ?_;try first|intro ao cap|intro b)
  (refine End.done1_ (s) (he:=Jv) (hp:=?_));simp only;rw[hs,hy]
theorem special_25(a n:Int):SpecFn fb cb ab mb m r z q ⟨25,a,n⟩:=by
 have e:Ver.special m.mdl (m.us.getD q default).u ⟨25,a,n⟩ (flow r z)=(false,Ver.done (if(m.us.getD q default).u.kind=2 then Ver.fail 8 (flow r z)else flow r z)):=by
  unfold Ver.special;dsimp only;(repeat rw[if_neg (by decide)]);rw[if_pos rfl]
 unfold SpecFn;rw[e]
 by_cases hkd:(m.us.getD q default).u.kind=2
 ·rw[if_pos hkd];refine Fn.enter (args:=[ptr fb, .agg #[.int .i64 25, .int .i64 a, .int .i64 n]]) Try.func68 rfl _ Try.ntmps68 rfl (by simp[rd_excl,md_excl]) (fun w S=>?_);(refine Jn ?_);(refine Jn ?_)
  repeat(refine Jy ?_;try first|intro ao cap|intro b)
  (refine Jc ?_;refine OpT.call0_ (spec:=fail_is fb cb ab (up m q) r z 8) (t:=Jx) (k:=?_);intro s hs;(refine Jn ?_))
  repeat(refine Jy ?_;try first|intro ao cap|intro b)
  (refine Jc ?_;refine OpT.call0_ (spec:=done_is fb cb ab (up m q) r (failE 8 z) (by show z.st.length≤1000;omega)) (t:=Jx) (k:=?_);intro s hs;(refine Jn ?_))
  repeat(refine Jy ?_;try first|intro ao cap|intro b)
  (refine End.done1_ (s) (he:=Jv) (hp:=?_));simp only;rw[hs,flow_fail]
 ·rw[if_neg hkd];refine Fn.enter (args:=[ptr fb, .agg #[.int .i64 25, .int .i64 a, .int .i64 n]]) Try.func68 rfl _ Try.ntmps68 rfl (by simp[rd_excl,md_excl]) (fun w S=>?_);(refine Jn ?_);(refine Jn ?_)
  repeat(refine Jy ?_;try first|intro ao cap|intro b)
  (refine Jc ?_;refine OpT.call0_ (spec:=done_is fb cb ab (up m q) r z (by omega)) (t:=Jx) (k:=?_);intro s hs;(refine Jn ?_))
  repeat(refine Jy ?_;try first|intro ao cap|intro b)
  (refine End.done1_ (s) (he:=Jv) (hp:=?_));exact hs
theorem special_28(a n:Int):SpecFn fb cb ab mb m r z q ⟨28,a,n⟩:=by
 have e:Ver.special m.mdl (m.us.getD q default).u ⟨28,a,n⟩ (flow r z)=(true,if(Ver.pop (flow r z)).2.err=0∧Ver.plain (Ver.pop (flow r z)).1=false then Ver.fail 9 (Ver.pop (flow r z)).2 else(Ver.pop (flow r z)).2):=by
  unfold Ver.special;dsimp only;(repeat rw[if_neg (by decide)]);rw[if_pos rfl]
 unfold SpecFn;rw[e];refine Fn.enter (args:=[ptr fb, .agg #[.int .i64 28, .int .i64 a, .int .i64 n]]) Try.func68 rfl _ Try.ntmps68 rfl (by simp[rd_excl,md_excl]) (fun w S=>?_);(refine Jn ?_);(refine Jn ?_)
 repeat(refine Jy ?_;try first|intro ao cap|intro b)
 (refine Jc ?_;refine OpT.call0_ (spec:=pop_is fb cb ab (up m q) r z (by omega)) (t:=Jx) (k:=?_);intro s hs;(refine Jn ?_));obtain⟨y,rfl⟩:∃y,y=s:=⟨_,rfl⟩;rw[←hs];generalize(Ver.pop (flow r z)).1=t at *;clear hs e
 by_cases he:y.err=0
 ·cases hp:Ver.plain t with
  |true=>
   rw[if_neg (fun h=>by cases h.2)]
   repeat(first|(refine Jc ?_;refine OpT.call0_ (spec:=plain_is _) (k:=?_);intro s hs;(refine Jn ?_))|refine Jo ?_|(refine JB ?_;intro b)|(refine JA ?_;intro ao cap))
   (refine End.done1_ (y) (he:=Jv) (hp:=?_));rfl
  |false=>
   rw[if_pos ⟨he,rfl⟩]
   repeat(first|(refine Jc ?_;refine OpT.call0_ (spec:=plain_is _) (k:=?_);intro s hs;(refine Jn ?_))|refine Jo ?_|(refine JB ?_;intro b)|(refine JA ?_;intro ao cap))
   (refine Jc ?_;refine OpT.call0_ (spec:=fail_is fb cb ab (up m q) r y 9) (t:=Jx) (k:=?_);intro s hs;(refine Jn ?_))
   repeat(refine Jy ?_;try first|intro ao cap|intro b)
   (refine End.done1_ (failE 9 y) (he:=Jv) (hp:=?_));exact flow_fail r y 9
 ·rw[if_neg (fun h=>he h.1)]
  repeat(refine Jy ?_;try first|intro ao cap|intro b)
  (refine End.done1_ (y) (he:=Jv) (hp:=?_));rfl
theorem special_31(a n:Int):SpecFn fb cb ab mb m r z q ⟨31,a,n⟩:=by
 have e:Ver.special m.mdl (m.us.getD q default).u ⟨31,a,n⟩ (flow r z)=(true,Ver.push (m.us.getD q default).u.takes (Ver.want [(m.us.getD q default).u.result] (if(m.us.getD q default).u.kind≠3 then Ver.fail 8 (flow r z)else flow r z))):=by
  unfold Ver.special;dsimp only;(repeat rw[if_neg (by decide)]);rw[if_pos rfl]
 unfold SpecFn;rw[e]
 by_cases hkd:(m.us.getD q default).u.kind=3
 ·rw[if_neg (fun h=>h hkd)];refine Fn.enter (args:=[ptr fb, .agg #[.int .i64 31, .int .i64 a, .int .i64 n]]) Try.func68 rfl _ Try.ntmps68 rfl (by simp[rd_excl,md_excl]) (fun w S=>?_);(refine Jn ?_);(refine Jn ?_)
  repeat(refine Jy ?_;try first|intro ao cap|intro b)
  (refine Jc ?_;refine OpT.call0_ (spec:=want_is fb cb ab (up m q) r z _ 1 _ [(m.us.getD q default).u.result] rfl (by omega) (by omega)) (t:=Jx) (k:=?_);intro s hs;(refine Jn ?_));obtain⟨y,rfl⟩:∃y,y=s:=⟨_,rfl⟩;have hy:=hs;have hyl:=len_of hs (Nat.le_trans (want_le _ _) (show(flow r z).stack.length≤300 from hl))
  repeat(refine Jy ?_;try first|intro ao cap|intro b)
  (refine Jc ?_;refine OpT.call0_ (spec:=push_is fb cb ab (up m q) r y (m.us.getD q default).u.takes (by omega)) (t:=Jx) (k:=?_);intro s hs;(refine Jn ?_))
  repeat(refine Jy ?_;try first|intro ao cap|intro b)
  (refine End.done1_ (s) (he:=Jv) (hp:=?_));simp only;rw[hs,hy]
 ·rw[if_pos hkd];refine Fn.enter (args:=[ptr fb, .agg #[.int .i64 31, .int .i64 a, .int .i64 n]]) Try.func68 rfl _ Try.ntmps68 rfl (by simp[rd_excl,md_excl]) (fun w S=>?_);(refine Jn ?_);(refine Jn ?_)
  repeat(refine Jy ?_;try first|intro ao cap|intro b)
  (refine Jc ?_;refine OpT.call0_ (spec:=fail_is fb cb ab (up m q) r z 8) (t:=Jx) (k:=?_);intro s hs;(refine Jn ?_))
  repeat(refine Jy ?_;try first|intro ao cap|intro b)
  (refine Jc ?_;refine OpT.call0_ (spec:=want_is fb cb ab (up m q) r (failE 8 z) _ 1 _ [(m.us.getD q default).u.result] rfl (by omega) (by show z.st.length≤1000;omega)) (t:=Jx) (k:=?_);intro s hs;(refine Jn ?_));obtain⟨y,rfl⟩:∃y,y=s:=⟨_,rfl⟩;have hy:=hs;have hyl:=len_of hs (Nat.le_trans (want_le _ _) (show(flow r z).stack.length≤300 from hl));rw[flow_fail]at hy
  repeat(refine Jy ?_;try first|intro ao cap|intro b)
  (refine Jc ?_;refine OpT.call0_ (spec:=push_is fb cb ab (up m q) r y (m.us.getD q default).u.takes (by omega)) (t:=Jx) (k:=?_);intro s hs;(refine Jn ?_))
  repeat(refine Jy ?_;try first|intro ao cap|intro b)
  (refine End.done1_ (s) (he:=Jv) (hp:=?_));simp only;rw[hs,hy]
theorem special_32(a n:Int):SpecFn fb cb ab mb m r z q ⟨32,a,n⟩:=by
 have e:Ver.special m.mdl (m.us.getD q default).u ⟨32,a,n⟩ (flow r z)=(true,Ver.push 2 (Ver.gen m.mdl (flow r z)).2):=by
  unfold Ver.special;dsimp only;(repeat rw[if_neg (by decide)]);rw[if_pos rfl]
 unfold SpecFn;rw[e];refine Fn.enter (args:=[ptr fb, .agg #[.int .i64 32, .int .i64 a, .int .i64 n]]) Try.func68 rfl _ Try.ntmps68 rfl (by simp[rd_excl,md_excl]) (fun w S=>?_);(refine Jn ?_);(refine Jn ?_)
 repeat(refine Jy ?_;try first|intro ao cap|intro b)
 (refine Jc ?_;refine OpT.call0_ (spec:=gen_is fb cb ab mb (up m q) m r z (by omega) hst) (t:=Jx) (k:=?_);intro s hs;(refine Jn ?_));obtain⟨y,rfl⟩:∃y,y=s:=⟨_,rfl⟩;have hy:=hs;have hyl:=len_of hs (gen_le _ _ (show(flow r z).stack.length≤300 from hl))
 repeat(refine Jy ?_;try first|intro ao cap|intro b)
 (refine Jc ?_;refine OpT.call0_ (spec:=push_is fb cb ab (up m q) r y 2 (by omega)) (t:=Jx) (k:=?_);intro s hs;(refine Jn ?_))
 repeat(refine Jy ?_;try first|intro ao cap|intro b)
 (refine End.done1_ (s) (he:=Jv) (hp:=?_));simp only;rw[hs,hy]
theorem special_26(k:Nat)(n:Int)(hk:k<m.bx.length):SpecFn fb cb ab mb m r z q ⟨26,k,n⟩:=by
 have e:Ver.special m.mdl (m.us.getD q default).u ⟨26,k,n⟩ (flow r z)=(true,Ver.want [(m.bx.getD k default).1] (flow r z)):=by
  unfold Ver.special;dsimp only;(repeat rw[if_neg (by decide)]);rw[if_pos rfl];rw[Int.toNat_natCast]
 unfold SpecFn;rw[e];refine Fn.enter (args:=[ptr fb, .agg #[.int .i64 26, .int .i64 (k:Int), .int .i64 n]]) Try.func68 rfl _ Try.ntmps68 rfl (by simp[rd_excl,md_excl]) (fun w S=>?_);(refine Jn ?_);(refine Jn ?_)
 repeat(refine Jy ?_;try first|intro ao cap|intro b)
 apply Cod.draw 17 ([md m,blk fb (fcells cb ab (up m q) r z) 92,blk cb [.pointer (some ⟨mb,0,none⟩)] 53,blk mb [.slice m.bo m.bx.length m.bc, .slice m.uo m.us.length m.uc] 25,blk b [.int .i64 26, .int .i64 (k:Int), .int .i64 n] 49]) (by kernel_rfl) 18 rfl;refine JR 0 ?_;refine JR 1 ?_;refine JR 2 ?_;refine JR 3 ?_;refine JR 4 ?_;refine JR 5 ?_;refine JR 6 ?_;refine JR 7 ?_;refine JR 8 ?_;refine JR 9 ?_;refine JR 10 ?_;refine JR 11 ?_;refine JR 12 ?_;refine JR 13 ?_;refine JR 14 ?_;refine JR 15 ?_;(refine JT 16 ?_;(first|refine Jw ?_|(refine Jb ?_;intro b)|(refine Ja ?_;intro ao cap));refine And.intro gud ?_);(refine JT 17 ?_;refine OpT.call0_ (spec:=want_is fb cb ab (up m q) r z _ 1 _ [(m.bx.getD k default).1] rfl (by omega) (by omega)) (k:=?_);intro s hs;refine And.intro gud ?_;(refine Jn ?_));(apply RunT.done;kernel_rfl)
 repeat(refine Jy ?_;try first|intro ao cap|intro b)
 (refine End.done1_ (s) (he:=Jv) (hp:=?_));exact hs
theorem special_27(k:Nat)(n:Int)(hk:k<m.bx.length):SpecFn fb cb ab mb m r z q ⟨27,k,n⟩:=by
 have e:Ver.special m.mdl (m.us.getD q default).u ⟨27,k,n⟩ (flow r z)=(true,Ver.push (m.bx.getD k default).1 (flow r z)):=by
  unfold Ver.special;dsimp only;(repeat rw[if_neg (by decide)]);rw[if_pos rfl];rw[Int.toNat_natCast]
 unfold SpecFn;rw[e];refine Fn.enter (args:=[ptr fb, .agg #[.int .i64 27, .int .i64 (k:Int), .int .i64 n]]) Try.func68 rfl _ Try.ntmps68 rfl (by simp[rd_excl,md_excl]) (fun w S=>?_);(refine Jn ?_);(refine Jn ?_)
 repeat(refine Jy ?_;try first|intro ao cap|intro b)
 (refine Jc ?_;refine OpT.call0_ (spec:=push_is fb cb ab (up m q) r z (m.bx.getD k default).1 (by omega)) (t:=Jx) (k:=?_);intro s hs;(refine Jn ?_))
 repeat(refine Jy ?_;try first|intro ao cap|intro b)
 (refine End.done1_ (s) (he:=Jv) (hp:=?_));exact hs
theorem special_30(a n:Int):SpecFn fb cb ab mb m r z q ⟨30,a,n⟩:=by
 obtain⟨F,hF⟩:∃F,F=(match Ver.gen m.mdl (Ver.pop (flow r z)).2 with
  |(none,g)=>g
  |(some k,g)=>Ver.push (m.mdl.units.getD k.toNat default).result (if(Ver.pop (flow r z)).1≠(m.mdl.units.getD k.toNat default).takes then Ver.fail 9 g else g)):=⟨_,rfl⟩
 have e:Ver.special m.mdl (m.us.getD q default).u ⟨30,a,n⟩ (flow r z)=(true,F):=by
  unfold Ver.special;dsimp only;(repeat rw[if_neg (by decide)]);rw[if_pos rfl,hF];rfl
 unfold SpecFn;rw[e];clear e;refine Fn.enter (args:=[ptr fb, .agg #[.int .i64 30, .int .i64 a, .int .i64 n]]) Try.func68 rfl _ Try.ntmps68 rfl (by simp[rd_excl,md_excl]) (fun w S=>?_);(refine Jn ?_);(refine Jn ?_);apply Cod.fact (∀k,k<m.us.length→(place (sz ucell) m.uo k 0).isSome=true) (fun w hm k hk=>(Rdb.md_units tk).place hm hk 0);intro hpl
 repeat(refine Jy ?_;try first|intro ao cap|intro b)
 (refine Jc ?_;refine OpT.call0_ (spec:=pop_is fb cb ab (up m q) r z (by omega)) (t:=Jx) (k:=?_);intro s hs;(refine Jn ?_));obtain⟨y,rfl⟩:∃y,y=s:=⟨_,rfl⟩;have hyl:=len_of hs (Nat.le_trans (pop_le _) (show(flow r z).stack.length≤300 from hl));have hyt:∀t∈y.st,ImgM.In64 t:=fun t ht=>hst t (pop_sub _ _ (by rw[←hs];exact ht))
 rw[←hs]at hF;generalize(Ver.pop (flow r z)).1=v at *;clear hs
 repeat(refine Jy ?_;try first|intro ao cap|intro b)
 (refine Jc ?_;refine OpT.call0_ (spec:=gen_is fb cb ab mb (up m q) m r y (by omega) hyt) (t:=Jx) (k:=?_);intro s hs;(refine Jn ?_));obtain⟨x,rfl⟩:∃x,x=s:=⟨_,rfl⟩;have hxl:=len_of hs (gen_le m.mdl (flow r y) hyl);have hgk:=gen_ok m.mdl (flow r y);generalize hg:Ver.gen m.mdl (flow r y)=G at *;obtain⟨o,g⟩:=G;simp only at hs hgk hxl hF;subst hs
 cases o with
 |none=>
  simp only at hF
  repeat(refine Jy ?_;try first|intro ao cap|intro b)
  (refine End.done1_ (x) (he:=Jv) (hp:=?_));exact hF.symm
 |some k=>
  obtain⟨j,rfl,hj⟩:=hgk k rfl;have hj':j<m.us.length:=by simpa using hj
  have hpj:=hpl j hj';have hF2:F=Ver.push (m.us.getD j default).u.result (if v≠(m.us.getD j default).u.takes then Ver.fail 9 (flow r x)else flow r x):=by
   rw[hF];simp only[Int.toNat_natCast,getD_u]
  clear hF;have hF:=hF2;clear hF2;have hgv:genV m (some ((j:Nat):Int))=up m j:=by simp only[genV,Int.toNat_natCast]
  apply Run.look (d:=130) (by exact rfl) hgv
  by_cases hv:v=(m.us.getD j default).u.takes
  ·rw[if_neg (fun h=>h hv)]at hF
   repeat(refine Jy ?_;try first|intro ao cap|intro b)
   (refine Jc ?_;refine OpT.call0_ (spec:=push_is fb cb ab (up m q) r x (m.us.getD j default).u.result (by omega)) (t:=Jx) (k:=?_);intro s hs;(refine Jn ?_))
   repeat(refine Jy ?_;try first|intro ao cap|intro b)
   (refine End.done1_ (s) (he:=Jv) (hp:=?_));exact hs.trans hF.symm
  ·rw[if_pos hv]at hF
   repeat(refine Jy ?_;try first|intro ao cap|intro b)
   (refine Jc ?_;refine OpT.call0_ (spec:=fail_is fb cb ab (up m q) r x 9) (t:=Jx) (k:=?_);intro s hs;(refine Jn ?_))
   repeat(refine Jy ?_;try first|intro ao cap|intro b)
   (refine Jc ?_;refine OpT.call0_ (spec:=push_is fb cb ab (up m q) r (failE 9 x) (m.us.getD j default).u.result (by show x.st.length≤1000;omega)) (t:=Jx) (k:=?_);intro s hs;(refine Jn ?_))
   repeat(refine Jy ?_;try first|intro ao cap|intro b)
   (refine End.done1_ (s) (he:=Jv) (hp:=?_));rw[hF,←flow_fail];exact hs
end
end Go.Proofs.Ytgnhfinabhimpaa.Vw
