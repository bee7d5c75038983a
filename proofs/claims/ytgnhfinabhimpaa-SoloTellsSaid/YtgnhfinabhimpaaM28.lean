/- The document's answer to chapter 7: types as letters; an instruction, in letters, does what package verify does. Plain Lean. -/
import Derived.Test.YtgnhfinabhimpaaM27
set_option linter.unusedVariables false
set_option linter.unusedSimpArgs false
set_option linter.unusedSectionVars false
set_option maxRecDepth 100000
namespace Go.Proofs.Ytgnhfinabhimpaa.Rf7
open ImgM Ver Opt
def lt1(t:Int):UInt8:=if t=1 then 110 else if t=2 then 98 else UInt8.ofNat (55+t).toNat
def VT(M:Mdl)(t:Int):Prop:=t=1∨t=2∨handle M t=true
theorem handle_iff{M:Mdl}{t:Int}:handle M t=true↔10≤t∧t-10<(M.units.length:Int)∧(M.units.getD (t-10).toNat default).kind=3:=by
 unfold handle isUnit;simp only[Bool.and_eq_true,decide_eq_true_eq];constructor
 ·rintro⟨h1,⟨-,h2⟩,h3⟩;exact⟨h1,h2,h3⟩
 ·rintro⟨h1,h2,h3⟩;exact⟨h1,⟨by omega,h2⟩,h3⟩
theorem VT.rng{M:Mdl}(h30:M.units.length≤30){t:Int}(h:VT M t):t=1∨t=2∨(10≤t∧t<40):=by
 rcases h with h|h|h
 ·exact .inl h
 ·exact .inr (.inl h)
 ·have:=handle_iff.1 h;omega
theorem lt1_nat{t:Int}(h:10≤t∧t<40):(lt1 t).toNat=(55+t).toNat:=by
 unfold lt1;rw[if_neg (by omega),if_neg (by omega)];rw[UInt8.toNat_ofNat'];omega
theorem lt1_val{t:Int}(h:t=1∨t=2∨(10≤t∧t<40)):((lt1 t).toNat:Int)=if t=1 then 110 else if t=2 then 98 else 55+t:=by
 rcases h with rfl|rfl|h
 ·rfl
 ·rfl
 ·rw[lt1_nat h,if_neg (by omega),if_neg (by omega)];omega
theorem lt1_inj{t t':Int}(h:t=1∨t=2∨(10≤t∧t<40))(h':t'=1∨t'=2∨(10≤t'∧t'<40))(e:lt1 t=lt1 t'):t=t':=by
 have e1:=lt1_val h;have e2:=lt1_val h';rw[e,e2]at e1
 repeat' split at e1
 all_goals omega
theorem lt1_ne{t:Int}(h:t=1∨t=2∨(10≤t∧t<40)):lt1 t≠42∧lt1 t≠63∧lt1 t≠0:=by
 have e1:=lt1_val h;refine⟨fun e=>?_,fun e=>?_,fun e=>?_⟩<;>(rw[e]at e1;simp at e1;repeat' split at e1)<;>omega
theorem lt1_pl{t:Int}(h:t=1∨t=2∨(10≤t∧t<40)):(lt1 t=110↔t=1)∧(lt1 t=98↔t=2):=by
 refine⟨⟨fun e=>?_,fun e=>by rw[e];rfl⟩,⟨fun e=>?_,fun e=>by rw[e];rfl⟩⟩
 ·exact lt1_inj h (.inl rfl) e
 ·exact lt1_inj h (.inr (.inl rfl)) e
theorem map_inj{l l':List Int}(h:∀t∈l,t=1∨t=2∨(10≤t∧t<40))(h':∀t∈l',t=1∨t=2∨(10≤t∧t<40))(e:l.map lt1=l'.map lt1):l=l':=by
 induction l generalizing l' with
 |nil=>
  cases l' with
  |nil=>rfl
  |cons a r=>simp at e
 |cons a r ih=>
  cases l' with
  |nil=>simp at e
  |cons b s=>
   simp only[List.map_cons,List.cons.injEq]at e;rw[lt1_inj (h a List.mem_cons_self) (h' b List.mem_cons_self) e.1,ih (fun t ht=>h t (List.mem_cons_of_mem _ ht)) (fun t ht=>h' t (List.mem_cons_of_mem _ ht)) e.2]
def tk7:List UInt8→UInt8→List UInt8→List UInt8×Int
 |[],_,st=>(st,0)
 |x::w,last,st=>
  if st.length=0 then([],12)
  else if x=42 then tk7 w last (st.take (st.length-1))
  else if x=63 then(if(st.getD (st.length-1) 0≠110∧st.getD (st.length-1) 0≠98)∨(last≠0∧last≠st.getD (st.length-1) 0)then([],9)else tk7 w (st.getD (st.length-1) 0) (st.take (st.length-1)))
  else if st.getD (st.length-1) 0≠x then([],9)else tk7 w last (st.take (st.length-1))
def take7(st want:List UInt8):List UInt8×Int:=tk7 want.reverse 0 st
def par7(M:Mdl)(k:Int):List UInt8:=((M.units.getD k.toNat default).locals.take (M.units.getD k.toNat default).params.toNat).map lt1
def res7(M:Mdl)(k:Int):UInt8:=lt1 (M.units.getD k.toNat default).result
def needs7(M:Mdl)(u:Unt)(i:Ins):List UInt8×List UInt8:=
 if i.op=1 then([],[110])
 else if i.op=2 then([],[98])
 else if i.op=3 then([],[lt1 (u.locals.getD i.a.toNat 0)])
 else if i.op=4 then([lt1 (u.locals.getD i.a.toNat 0)],[])
 else if i.op=5 then([42],[])
 else if i.op=6 then([110],[110])
 else if i.op=7 then([98],[98])
 else if i.op≤12 then([110,110],[110])
 else if i.op=13∨i.op=14 then([63,63],[98])
 else if i.op≤18 then([110,110],[98])
 else if i.op=19∨i.op=20 then([98,98],[98])
 else if i.op=22 then([98],[])
 else if i.op=23 then(par7 M i.a,[res7 M i.a])
 else if i.op=24 then([lt1 u.result],[])
 else if i.op=26 then([lt1 (M.boxes.getD i.a.toNat default).1],[])
 else if i.op=27 then([],[lt1 (M.boxes.getD i.a.toNat default).1])
 else if i.op=28 then([63],[])
 else if i.op=29 then(par7 M i.a,[lt1 (10+i.a)])
 else if i.op=31 then([lt1 u.result],[lt1 u.takes])
 else([],[])
def want7(M:Mdl)(u:Unt)(i:Ins)(st:List UInt8):Int×List UInt8×List UInt8:=
 if i.op=30∨i.op=32 then
  let n:=if i.op=30 then 2 else 1
  if st.length<n then(12,[],[])
  else if st.getD (st.length-n) 0=110∨st.getD (st.length-n) 0=98 then(9,[],[])
  else
   let x:=M.units.getD ((st.getD (st.length-n) 0).toNat-65) default
   if i.op=30 then(0,[st.getD (st.length-n) 0,lt1 x.takes],[lt1 x.result])else(0,[st.getD (st.length-n) 0],[98])
 else(0,needs7 M u i)
def core7(M:Mdl)(u:Unt)(i:Ins)(st:List UInt8)(h:List Bool):Int×List UInt8×List Bool:=
 if i.op=3∧h.getD i.a.toNat false=false then(11,[],[])
 else if(i.op=24∧u.kind≠2)∨(i.op=25∧u.kind=2)∨(i.op=31∧u.kind≠3)then(8,[],[])
 else if(want7 M u i st).1≠0 then((want7 M u i st).1,[],[])
 else if(take7 st (want7 M u i st).2.1).2≠0 then((take7 st (want7 M u i st).2.1).2,[],[])
 else if 300<((take7 st (want7 M u i st).2.1).1 ++(want7 M u i st).2.2).length then(4,[],[])
 else if(i.op=24∨i.op=25)∧((take7 st (want7 M u i st).2.1).1 ++(want7 M u i st).2.2).length≠0 then(12,[],[])
 else(0,(take7 st (want7 M u i st).2.1).1 ++(want7 M u i st).2.2,if i.op=4 then h.set i.a.toNat true else h)
section
variable{M:Mdl}(h30:M.units.length≤30)
theorem err_want1{t:Int}{f:Flow}(h:f.err≠0):(want1 t f).err=f.err:=(want1_kept t f).err h
theorem err_want{l:List Int}{f:Flow}(h:f.err≠0):(want l f).err=f.err:=(want_kept l f).err h
theorem err_push{t:Int}{f:Flow}(h:f.err≠0):(push t f).err=f.err:=by
 unfold push
 split
 ·unfold fail;rw[if_neg h]
 ·rfl
theorem err_fail{e:Int}{f:Flow}(h:f.err≠0):fail e f=f:=by unfold fail;rw[if_neg h]
theorem map_last(st:List Int):(st.map lt1).getD ((st.map lt1).length-1) 0=if st.length=0 then 0 else lt1 (st.getD (st.length-1) 0):=by
 rw[List.length_map]
 by_cases h:st.length=0
 ·rw[if_pos h,List.eq_nil_of_length_eq_zero h];rfl
 ·rw[if_neg h,List.getD_eq_getElem?_getD,List.getElem?_map,List.getElem?_eq_getElem (by omega),List.getD_eq_getElem?_getD,List.getElem?_eq_getElem (by omega)];rfl
theorem getD_in{st:List Int}{k:Nat}(h:k<st.length):st.getD k 0∈st:=by
 rw[List.getD_eq_getElem?_getD,List.getElem?_eq_getElem h];exact List.getElem_mem h
include h30 in
theorem pop_in{st:List Int}(hst:∀t∈st,VT M t)(hne:st.length≠0):st.getD (st.length-1) 0=1∨st.getD (st.length-1) 0=2∨(10≤st.getD (st.length-1) 0∧st.getD (st.length-1) 0<40):=(hst _ (getD_in (by omega))).rng h30
theorem pop_ok{f:Flow}(h:f.stack.length≠0):pop f=(f.stack.getD (f.stack.length-1) 0,{f with stack:=f.stack.take (f.stack.length-1)}):=by
 unfold pop;rw[if_neg h]
theorem pop_no{f:Flow}(h:f.stack.length=0):pop f=(0,fail 12 f):=by
 unfold pop;rw[if_pos h]
include h30 in
theorem want_tk:∀(r:List Int) (f:Flow) (last:UInt8),f.err=0→(∀t∈r,VT M t)→(∀t∈f.stack,VT M t)→
  tk7 (r.map lt1) last (f.stack.map lt1)=if(want r.reverse f).err=0 then((want r.reverse f).stack.map lt1,0)else([],(want r.reverse f).err)
 |[],f,last,he,hr,hs=>by
  show(f.stack.map lt1,0)=if f.err=0 then(f.stack.map lt1,0)else([],f.err);rw[if_pos he]
 |t::r,f,last,he,hr,hs=>by
  have hw:want (t::r).reverse f=want r.reverse (want1 t f):=by
   unfold want;rw[List.reverse_cons,List.foldr_append];rfl
  have ht:=(hr t List.mem_cons_self).rng h30;obtain⟨n1,n2,n3⟩:=lt1_ne ht;rw[hw,List.map_cons];unfold tk7;rw[List.length_map]
  by_cases h0:f.stack.length=0
  ·rw[if_pos h0];have h1:want1 t f=fail 12 f:=by
    unfold want1;rw[pop_no h0];dsimp only;rw[if_pos (by omega),err_fail (by unfold fail;rw[if_pos he];exact(by decide:(12:Int)≠0))]
   have h2:(want1 t f).err=12:=by rw[h1];unfold fail;rw[if_pos he]
   rw[err_want (by rw[h2];decide),h2,if_neg (by decide)]
  ·rw[if_neg h0,if_neg n1,if_neg n2];have hl:=map_last f.stack;rw[List.length_map,if_neg h0]at hl;have htop:=pop_in h30 hs h0;rw[hl]
   by_cases he2:f.stack.getD (f.stack.length-1) 0=t
   ·rw[he2,if_neg (fun h=>h rfl)];have h1:want1 t f={f with stack:=f.stack.take (f.stack.length-1)}:=by
     unfold want1;rw[pop_ok h0];dsimp only;rw[if_neg (fun h=>h he2)]
    rw[h1,←List.map_take];exact want_tk r {f with stack:=f.stack.take (f.stack.length-1)} last he (fun x hx=>hr x (List.mem_cons_of_mem _ hx)) (fun x hx=>hs x (List.mem_of_mem_take hx))
   ·rw[if_pos (fun h=>he2 (lt1_inj htop ht h))];have h1:want1 t f=fail 9 {f with stack:=f.stack.take (f.stack.length-1)}:=by
     unfold want1;rw[pop_ok h0];dsimp only;rw[if_pos he2]
    have h2:(want1 t f).err=9:=by rw[h1];unfold fail;rw[if_pos he]
    rw[err_want (by rw[h2];decide),h2,if_neg (by decide)]
include h30 in
theorem want_take{l:List Int}{f:Flow}(he:f.err=0)(hl:∀t∈l,VT M t)(hs:∀t∈f.stack,VT M t):
  take7 (f.stack.map lt1) (l.map lt1)=if(want l f).err=0 then((want l f).stack.map lt1,0)else([],(want l f).err):=by
 have:=want_tk h30 l.reverse f 0 he (fun t ht=>hl t (List.mem_reverse.1 ht)) hs;rw[List.reverse_reverse]at this;unfold take7;rw[←List.map_reverse];exact this
end
theorem tk7_nil(last:UInt8)(st:List UInt8):tk7 [] last st=(st,0):=rfl
theorem tk7_cons(x:UInt8)(w:List UInt8)(last:UInt8)(st:List UInt8):tk7 (x::w) last st=if st.length=0 then([],12)
  else if x=42 then tk7 w last (st.take (st.length-1))
  else if x=63 then(if(st.getD (st.length-1) 0≠110∧st.getD (st.length-1) 0≠98)∨(last≠0∧last≠st.getD (st.length-1) 0)then([],9)else tk7 w (st.getD (st.length-1) 0) (st.take (st.length-1)))
  else if st.getD (st.length-1) 0≠x then([],9)else tk7 w last (st.take (st.length-1)):=rfl
theorem take7_1(st:List UInt8)(x:UInt8):take7 st [x]=tk7 [x] 0 st:=rfl
theorem take7_2(st:List UInt8)(x y:UInt8):take7 st [x,y]=tk7 [y,x] 0 st:=rfl
theorem no0:¬((0:Int)≠0):=fun h=>h rfl
theorem yes12:(12:Int)≠0:=by decide
theorem yes9:(9:Int)≠0:=by decide
def out7(g:Flow):Int×List UInt8×List Bool:=if g.err=0 then(0,g.stack.map lt1,g.has)else(g.err,[],[])
def gen7(pre:Int)(w:Int×List UInt8×List UInt8)(fin:Bool)(h:List Bool)(st:List UInt8):Int×List UInt8×List Bool:=
 if pre≠0 then(pre,[],[])
 else if w.1≠0 then(w.1,[],[])
 else if(take7 st w.2.1).2≠0 then((take7 st w.2.1).2,[],[])
 else if 300<((take7 st w.2.1).1 ++w.2.2).length then(4,[],[])
 else if fin=true∧((take7 st w.2.1).1 ++w.2.2).length≠0 then(12,[],[])
 else(0,(take7 st w.2.1).1 ++w.2.2,h)
def pre7(u:Unt)(i:Ins)(h:List Bool):Int:=
 if i.op=3∧h.getD i.a.toNat false=false then 11
 else if(i.op=24∧u.kind≠2)∨(i.op=25∧u.kind=2)∨(i.op=31∧u.kind≠3)then 8
 else 0
theorem core_gen(M:Mdl)(u:Unt)(i:Ins)(st:List UInt8)(h:List Bool):core7 M u i st h=gen7 (pre7 u i h) (want7 M u i st) (decide (i.op=24∨i.op=25)) (if i.op=4 then h.set i.a.toNat true else h) st:=by
 unfold core7 gen7 pre7
 by_cases h1:i.op=3∧h.getD i.a.toNat false=false
 ·rw[if_pos h1,if_pos h1,if_pos (by decide)]
 rw[if_neg h1,if_neg h1]
 by_cases h2:(i.op=24∧u.kind≠2)∨(i.op=25∧u.kind=2)∨(i.op=31∧u.kind≠3)
 ·rw[if_pos h2,if_pos h2,if_pos (by decide)]
 rw[if_neg h2,if_neg h2,if_neg no0];simp only[decide_eq_true_eq]
structure UV(M:Mdl)(u:Unt):Prop where
 kind:u.kind=2∨u.kind=3∨u.kind=4
 loc:∀t∈u.locals,VT M t
 res:u.kind≠4→u.result=1∨u.result=2
 tak:u.kind=3→u.takes=1∨u.takes=2
theorem plain_iff{t:Int}:plain t=true↔t=1∨t=2:=by unfold plain;rw[Bool.or_eq_true,decide_eq_true_eq,decide_eq_true_eq]
theorem plain_no{t:Int}(h:¬plain t=false):t=1∨t=2:=plain_iff.1 (by simpa using h)
theorem uv_head{M:Mdl}{u:Unt}(h:Ver.head M u=0):UV M u:=by
 unfold Ver.head at h
 by_cases e1:u.kind≠2∧u.kind≠3∧u.kind≠4
 ·rw[if_pos e1]at h;cases h
 rw[if_neg e1]at h
 by_cases e2:200<u.locals.length∨u.params<0∨6<u.params∨(u.locals.length:Int)<u.params∨(u.kind=4∧0<u.params)
 ·rw[if_pos e2]at h;cases h
 rw[if_neg e2]at h
 by_cases e3:u.code.length<1∨4000<u.code.length
 ·rw[if_pos e3]at h;cases h
 rw[if_neg e3]at h
 by_cases e4:(u.kind≠4∧plain u.result=false)∨(u.kind=3∧plain u.takes=false)
 ·rw[if_pos e4]at h;cases h
 rw[if_neg e4]at h
 by_cases e5:u.locals.any (fun t=>!plain t&& !handle M t)=true
 ·rw[if_pos e5]at h;cases h
 refine⟨by omega,fun t ht=>?_,fun hk=>plain_no fun hp=>e4 (.inl ⟨hk,hp⟩),fun hk=>plain_no fun hp=>e4 (.inr ⟨hk,hp⟩)⟩;have e5:u.locals.any (fun t=>!plain t&& !handle M t)=false:=by simpa using e5
 rw[List.any_eq_false]at e5;have:=e5 t ht
 by_cases hp:plain t=true
 ·rcases plain_iff.1 hp with h|h
  ·exact .inl h
  ·exact .inr (.inl h)
 ·by_cases hh:handle M t=true
  ·exact .inr (.inr hh)
  ·exact absurd (by simp[hp,hh]) this
section
variable{M:Mdl}(h30:M.units.length≤30){u:Unt}{st:List Int}{h:List Bool}(hst:∀t∈st,VT M t)(hl:st.length≤300)
abbrev F0(st:List Int)(h:List Bool):Flow:=⟨[],[],st,h,0⟩
theorem out_err{g:Flow}{e:Int}(he:g.err=e)(h0:e≠0):out7 g=(e,[],[]):=by unfold out7;rw[he,if_neg h0]
theorem gen_pre{e:Int}{w:Int×List UInt8×List UInt8}{fin:Bool}{st:List UInt8}(h0:e≠0):gen7 e w fin h st=(e,[],[]):=by unfold gen7;rw[if_pos h0]
theorem want_le(l:List Int)(f:Flow):(want l f).stack.length≤f.stack.length:=(want_kept l f).len
theorem want_has(l:List Int)(f:Flow):(want l f).has=f.has:=(want_kept l f).same.has
include h30 hst in
theorem fin_push(l:List Int)(p:Int)(hp:∀t∈l,VT M t):gen7 0 (0,l.map lt1,[lt1 p]) false h (st.map lt1)=out7 (push p (want l (F0 st h))):=by
 have ht:=want_take (f:=F0 st h) h30 rfl hp hst;have hh:=want_has l (F0 st h);unfold gen7;rw[if_neg (fun h=>h rfl),if_neg (fun h=>h rfl)];dsimp only;dsimp only at ht;rw[ht];generalize want l (F0 st h)=g at *
 by_cases he:g.err=0
 ·rw[if_pos he,if_neg (fun h=>h rfl)];dsimp only;rw[List.length_append,List.length_map,List.length_singleton]
  by_cases h3:300<g.stack.length+1
  ·rw[if_pos h3];refine(out_err ?_ (by decide)).symm;unfold push fail;rw[if_pos h3];dsimp only;rw[if_pos he]
  ·rw[if_neg h3,if_neg (fun hx=>by cases hx.1)];have e:push p g={g with stack:=g.stack ++[p]}:=by unfold push;rw[if_neg h3]
   rw[e];unfold out7;rw[if_pos (show({g with stack:=g.stack ++[p]}:Flow).err=0 from he),List.map_append,hh];rfl
 ·rw[if_neg he,if_pos he];refine(out_err ?_ he).symm;exact err_push he
include h30 hst hl in
theorem fin_want(l:List Int)(h':List Bool)(hp:∀t∈l,VT M t):gen7 0 (0,l.map lt1,[]) false h' (st.map lt1)=out7 {want l (F0 st h)with has:=h'}:=by
 have ht:=want_take (f:=F0 st h) h30 rfl hp hst;have hle:=want_le l (F0 st h);unfold gen7;rw[if_neg (fun h=>h rfl),if_neg (fun h=>h rfl)];dsimp only;dsimp only at ht hle;rw[ht];generalize want l (F0 st h)=g at *
 by_cases he:g.err=0
 ·rw[if_pos he,if_neg (fun h=>h rfl)];dsimp only;rw[List.append_nil,List.length_map,if_neg (by omega),if_neg (fun hx=>by cases hx.1)];unfold out7;rw[if_pos (show({g with has:=h'}:Flow).err=0 from he)]
 ·rw[if_neg he,if_pos he];exact(out_err (g:={g with has:=h'}) rfl he).symm
include h30 hst hl in
theorem fin_done(l:List Int)(hp:∀t∈l,VT M t):gen7 0 (0,l.map lt1,[]) true h (st.map lt1)=out7 (done (want l (F0 st h))):=by
 have ht:=want_take (f:=F0 st h) h30 rfl hp hst;have hle:=want_le l (F0 st h);have hh:=want_has l (F0 st h);unfold gen7;rw[if_neg (fun h=>h rfl),if_neg (fun h=>h rfl)];dsimp only;dsimp only at ht hle;rw[ht];generalize want l (F0 st h)=g at *
 by_cases he:g.err=0
 ·rw[if_pos he,if_neg (fun h=>h rfl)];dsimp only;rw[List.append_nil,List.length_map,if_neg (by omega)];unfold done
  by_cases h0:g.stack.length=0
  ·rw[if_neg (fun hx=>hx.2 h0),if_pos h0];unfold out7;rw[if_pos he,hh]
  ·rw[if_pos ⟨rfl,h0⟩,if_neg h0];exact(out_err (by unfold fail;rw[if_pos he]) (by decide)).symm
 ·rw[if_neg he,if_pos he];refine(out_err ?_ he).symm;unfold done
  split
  ·rfl
  ·rw[err_fail he]
theorem gen_bad{a b st:List UInt8}{fin:Bool}{e:Int}(he:take7 st a=([],e))(h0:e≠0):gen7 0 (0,a,b) fin h st=(e,[],[]):=by
 unfold gen7;rw[if_neg no0,if_neg no0];dsimp only;rw[he,if_pos h0]
theorem gen_ok{a b st r:List UInt8}(he:take7 st a=(r,0))(hr:(r ++b).length≤300):gen7 0 (0,a,b) false h st=(0,r ++b,h):=by
 unfold gen7;rw[if_neg no0,if_neg no0];dsimp only;rw[he,if_neg no0];dsimp only;rw[if_neg (by omega),if_neg (fun hx=>by cases hx.1)]
include h30 hst hl in
theorem fin_pop:gen7 0 (0,[42],[]) false h (st.map lt1)=out7 (pop (F0 st h)).2:=by
 by_cases h0:st.length=0
 ·have e:take7 (st.map lt1) [42]=([],12):=by rw[take7_1,tk7_cons,List.length_map,if_pos h0]
  rw[gen_bad e yes12,pop_no h0];exact(out_err (e:=12) rfl yes12).symm
 ·have e:take7 (st.map lt1) [42]=((st.take (st.length-1)).map lt1,0):=by rw[take7_1,tk7_cons,List.length_map,if_neg h0,if_pos rfl,tk7_nil,List.map_take]
  rw[gen_ok e (by rw[List.append_nil,List.length_map,List.length_take];omega),pop_ok h0,List.append_nil];rfl
include h30 hst hl in
theorem fin_out:gen7 0 (0,[63],[]) false h (st.map lt1)=out7 (if(pop (F0 st h)).2.err=0∧plain (pop (F0 st h)).1=false then fail 9 (pop (F0 st h)).2 else(pop (F0 st h)).2):=by
 have hml:=map_last st
 by_cases h0:st.length=0
 ·have e:take7 (st.map lt1) [63]=([],12):=by rw[take7_1,tk7_cons,List.length_map,if_pos h0]
  rw[gen_bad e yes12,pop_no h0];rw[if_neg (c:=(fail 12 (F0 st h)).err=0∧plain 0=false) (fun hx=>by have:=hx.1;cases this)];exact(out_err (g:=fail 12 (F0 st h)) (e:=12) rfl yes12).symm
 ·have hr:=pop_in h30 hst h0;obtain⟨p1,p2⟩:=lt1_pl hr;rw[if_neg h0]at hml;have e0:take7 (st.map lt1) [63]=if(lt1 (st.getD (st.length-1) 0)≠110∧lt1 (st.getD (st.length-1) 0)≠98)∨((0:UInt8)≠0∧(0:UInt8)≠lt1 (st.getD (st.length-1) 0))then([],9)else((st.take (st.length-1)).map lt1,0):=by
   rw[take7_1,tk7_cons,hml,if_neg (by rw[List.length_map];exact h0),if_neg (show¬((63:UInt8)=42) by decide),if_pos rfl,tk7_nil,List.length_map,List.map_take]
  rw[pop_ok h0];dsimp only
  by_cases hp:st.getD (st.length-1) 0=1∨st.getD (st.length-1) 0=2
  ·have hc:¬((lt1 (st.getD (st.length-1) 0)≠110∧lt1 (st.getD (st.length-1) 0)≠98)∨((0:UInt8)≠0∧(0:UInt8)≠lt1 (st.getD (st.length-1) 0))):=by
    rintro(⟨a,b⟩|⟨a, -⟩)
    ·rcases hp with hp|hp
     ·exact a (p1.2 hp)
     ·exact b (p2.2 hp)
    ·exact a rfl
   rw[if_neg hc]at e0;rw[gen_ok e0 (by rw[List.append_nil,List.length_map,List.length_take];omega),List.append_nil,if_neg (fun hx=>by rw[plain_iff.2 hp]at hx;cases hx.2)];rfl
  ·have hc:(lt1 (st.getD (st.length-1) 0)≠110∧lt1 (st.getD (st.length-1) 0)≠98)∨((0:UInt8)≠0∧(0:UInt8)≠lt1 (st.getD (st.length-1) 0)):= .inl ⟨fun h=>hp (.inl (p1.1 h)),fun h=>hp (.inr (p2.1 h))⟩;have hpl:plain (st.getD (st.length-1) 0)=false:=by
    cases hx:plain (st.getD (st.length-1) 0)with
    |false=>rfl
    |true=>exact absurd (plain_iff.1 hx) hp
   rw[if_pos hc]at e0;rw[gen_bad e0 yes9,if_pos ⟨rfl,hpl⟩];exact(out_err (e:=9) rfl yes9).symm
include h30 hst hl in
theorem fin_eq:gen7 0 (0,[63,63],[98]) false h (st.map lt1)=out7 (push 2 (want [(pop (F0 st h)).1] (if(pop (F0 st h)).1≠1∧(pop (F0 st h)).1≠2 then fail 9 (pop (F0 st h)).2 else(pop (F0 st h)).2))):=by
 have hml:=map_last st
 by_cases h0:st.length=0
 ·have e:take7 (st.map lt1) [63,63]=([],12):=by
   rw[take7_2,tk7_cons,List.length_map,if_pos h0]
  unfold gen7;rw[if_neg no0,if_neg no0];dsimp only;rw[e,if_pos yes12,pop_no h0];refine(out_err ?_ (by decide)).symm;dsimp only;rw[if_pos (show(0:Int)≠1∧(0:Int)≠2 by decide)];have e1:(fail 9 (fail 12 (F0 st h))).err=12:=rfl;rw[err_push (by rw[err_want (by rw[e1];decide),e1];decide),err_want (by rw[e1];decide),e1]
 ·have hr:=pop_in h30 hst h0;obtain⟨p1,p2⟩:=lt1_pl hr;obtain⟨-, -,pz⟩:=lt1_ne hr;rw[if_neg h0]at hml;rw[pop_ok h0];dsimp only;have hm:(st.take (st.length-1)).map lt1=(st.map lt1).take ((st.map lt1).length-1):=by rw[List.map_take,List.length_map]
  by_cases hp:st.getD (st.length-1) 0=1∨st.getD (st.length-1) 0=2
  ·have hsv:∀t∈st.take (st.length-1),VT M t:=fun t ht=>hst t (List.mem_of_mem_take ht)
   have hvt:∀t∈[st.getD (st.length-1) 0],VT M t:=fun t ht=>by
    simp at ht;subst ht;rcases hp with hp|hp
    ·exact .inl hp
    ·exact .inr (.inl hp)
   have hw:=want_tk h30 [st.getD (st.length-1) 0] (F0 (st.take (st.length-1)) h) 0 rfl hvt hsv;have e:take7 (st.map lt1) [63,63]=take7 ((st.take (st.length-1)).map lt1) [lt1 (st.getD (st.length-1) 0)]:=by
    rw[take7_2,take7_1,tk7_cons,hml,if_neg (by rw[List.length_map];exact h0),if_neg (show¬((63:UInt8)=42) by decide),if_pos rfl];have hc:¬((lt1 (st.getD (st.length-1) 0)≠110∧lt1 (st.getD (st.length-1) 0)≠98)∨((0:UInt8)≠0∧(0:UInt8)≠lt1 (st.getD (st.length-1) 0))):=by
     rintro(⟨a,b⟩|⟨a, -⟩)
     ·rcases hp with hp|hp
      ·exact a (p1.2 hp)
      ·exact b (p2.2 hp)
     ·exact a rfl
    rw[if_neg hc,hm];generalize(st.map lt1).take ((st.map lt1).length-1)=s' at *;generalize hx:lt1 (st.getD (st.length-1) 0)=x at *;rw[tk7_cons,tk7_cons]
    by_cases hs0:s'.length=0
    ·rw[if_pos hs0,if_pos hs0]
    ·have hx42:x≠42:=by rcases hp with hp|hp<;>(rw[hp]at hx;rw[←hx];decide)
     have hx63:x≠63:=by rcases hp with hp|hp<;>(rw[hp]at hx;rw[←hx];decide)
     have hpx:x=110∨x=98:=by
      rcases hp with hp|hp
      ·exact .inl (p1.2 hp)
      ·exact .inr (p2.2 hp)
     rw[if_neg hs0,if_neg (show¬((63:UInt8)=42) by decide),if_pos rfl,if_neg hs0,if_neg hx42,if_neg hx63]
     by_cases hy:s'.getD (s'.length-1) 0=x
     ·rw[if_neg (fun hh=>by
       rcases hh with⟨a,b⟩|⟨-,b⟩
       ·rw[hy]at a b;rcases hpx with h|h
        ·exact a h
        ·exact b h
       ·exact b hy.symm),if_neg (fun hh=>hh hy),tk7_nil,tk7_nil]
     ·rw[if_pos (.inr ⟨pz,fun hh=>hy hh.symm⟩),if_pos hy]
   have:=fin_push (M:=M) (h:=h) h30 hsv [st.getD (st.length-1) 0] 2 hvt;rw[if_neg (by rcases hp with hp|hp<;>(rw[hp];decide))];rw[←this];unfold gen7;dsimp only;rw[e];rfl
  ·have e:take7 (st.map lt1) [63,63]=([],9):=by
    rw[take7_2,tk7_cons,hml,if_neg (by rw[List.length_map];exact h0),if_neg (show¬((63:UInt8)=42) by decide),if_pos rfl];rw[if_pos (.inl ⟨fun h=>hp (.inl (p1.1 h)),fun h=>hp (.inr (p2.1 h))⟩)]
   unfold gen7;rw[if_neg no0,if_neg no0];dsimp only;rw[e,if_pos yes9,if_pos ⟨fun h=>hp (.inl h),fun h=>hp (.inr h)⟩];refine(out_err ?_ (by decide)).symm;have e1:(fail 9 ({F0 st h with stack:=st.take (st.length-1)}:Flow)).err=9:=rfl;rw[err_push (by rw[err_want (by rw[e1];decide),e1];decide),err_want (by rw[e1];decide),e1]
end
section
variable{M:Mdl}(h30:M.units.length≤30){u:Unt}{st:List Int}{h:List Bool}(hst:∀t∈st,VT M t)(hl:st.length≤300)
theorem map_at{k:Nat}(hk:k<st.length):(st.map lt1).getD k 0=lt1 (st.getD k 0):=by
 rw[List.getD_eq_getElem?_getD,List.getElem?_map,List.getElem?_eq_getElem hk,List.getD_eq_getElem?_getD,List.getElem?_eq_getElem hk];rfl
theorem want_one{t:Int}{f:Flow}(h0:f.stack.length≠0)(h1:f.stack.getD (f.stack.length-1) 0=t):want [t] f={f with stack:=f.stack.take (f.stack.length-1)}:=by
 show want1 t f=_;unfold want1;rw[pop_ok h0];dsimp only;rw[if_neg (fun h=>h h1)]
theorem handle_pl{t:Int}(ht:t=1∨t=2):handle M t=false:=by
 cases hx:handle M t with
 |false=>rfl
 |true=>have:=handle_iff.1 hx;omega
theorem vt_handle{t:Int}(h:VT M t)(hp:¬(t=1∨t=2)):handle M t=true:=by
 rcases h with h|h|h
 ·exact absurd (.inl h) hp
 ·exact absurd (.inr h) hp
 ·exact h
theorem gen7_err{e:Int}{a b:List UInt8}{fin:Bool}{hh:List Bool}{s:List UInt8}(h0:e≠0):gen7 0 (e,a,b) fin hh s=(e,[],[]):=by
 unfold gen7;rw[if_neg (fun h=>h rfl),if_pos h0]
theorem yes8:(8:Int)≠0:=by decide
theorem yes11:(11:Int)≠0:=by decide
theorem gen_none{f:Flow}(h:(pop f).2.err≠0):gen M f=(none,(pop f).2):=by unfold gen;rw[if_pos h]
theorem gen_no{f:Flow}(h:(pop f).2.err=0)(hh:handle M (pop f).1=false):gen M f=(none,fail 9 (pop f).2):=by unfold gen;rw[if_neg (fun hx=>hx h),if_pos hh]
theorem gen_yes{f:Flow}(h:(pop f).2.err=0)(hh:handle M (pop f).1=true):gen M f=(some ((pop f).1-10),(pop f).2):=by unfold gen;rw[if_neg (fun hx=>hx h),if_neg (by rw[hh];decide)]
theorem want7_few{i:Ins}{st:List UInt8}{n:Nat}(ho:i.op=30∨i.op=32)(hn:n=if i.op=30 then 2 else 1)(h:st.length<n):want7 M u i st=(12,[],[]):=by
 subst hn;unfold want7;rw[if_pos ho];dsimp only;rw[if_pos h]
theorem want7_pl{i:Ins}{st:List UInt8}{n:Nat}(ho:i.op=30∨i.op=32)(hn:n=if i.op=30 then 2 else 1)(h:¬st.length<n)(hp:st.getD (st.length-n) 0=110∨st.getD (st.length-n) 0=98):want7 M u i st=(9,[],[]):=by
 subst hn;unfold want7;rw[if_pos ho];dsimp only;rw[if_neg h,if_pos hp]
theorem want7_ok{i:Ins}{st:List UInt8}{n:Nat}(ho:i.op=30∨i.op=32)(hn:n=if i.op=30 then 2 else 1)(h:¬st.length<n)(hp:¬(st.getD (st.length-n) 0=110∨st.getD (st.length-n) 0=98)):want7 M u i st=if i.op=30 then(0,[st.getD (st.length-n) 0,lt1 (M.units.getD ((st.getD (st.length-n) 0).toNat-65) default).takes],[lt1 (M.units.getD ((st.getD (st.length-n) 0).toNat-65) default).result])else(0,[st.getD (st.length-n) 0],[98]):=by
 subst hn;unfold want7;rw[if_pos ho];dsimp only;rw[if_neg h,if_neg hp]
include h30 hst in
theorem fin_alive{i:Ins}(ho:i.op=32):gen7 0 (want7 M u i (st.map lt1)) false h (st.map lt1)=out7 (push 2 (gen M (F0 st h)).2):=by
 have hn:1=if i.op=30 then 2 else 1:=by rw[if_neg (by omega)]
 by_cases h0:st.length=0
 ·rw[want7_few (.inr ho) hn (by rw[List.length_map];omega),gen7_err yes12];have hp:(pop (F0 st h)).2.err=12:=by rw[pop_no h0];rfl
  rw[gen_none (by rw[hp];exact yes12)];exact(out_err (e:=12) ((err_push (by rw[hp];exact yes12)).trans hp) yes12).symm
 ·have hr:=pop_in h30 hst h0;obtain⟨p1,p2⟩:=lt1_pl hr;have hv:=hst _ (getD_in (st:=st) (k:=st.length-1) (by omega));have hpo:=pop_ok (f:=F0 st h) h0;have hat:(st.map lt1).getD ((st.map lt1).length-1) 0=lt1 (st.getD (st.length-1) 0):=by rw[List.length_map];exact map_at (by omega)
  by_cases hp:st.getD (st.length-1) 0=1∨st.getD (st.length-1) 0=2
  ·rw[want7_pl (.inr ho) hn (by rw[List.length_map];omega) (by rw[hat];exact hp.imp p1.2 p2.2),gen7_err yes9,gen_no (by rw[hpo]) (by rw[hpo];exact handle_pl hp)];have he:(fail 9 (pop (F0 st h)).2).err=9:=by rw[hpo];rfl
   exact(out_err (e:=9) ((err_push (by rw[he];exact yes9)).trans he) yes9).symm
  ·rw[want7_ok (.inr ho) hn (by rw[List.length_map];omega) (by rw[hat];exact fun hx=>hp (hx.imp p1.1 p2.1)),if_neg (by omega),hat,gen_yes (by rw[hpo]) (by rw[hpo];exact vt_handle hv hp)];have:=fin_push (h:=h) h30 hst [st.getD (st.length-1) 0] 2 (fun t ht=>by simp at ht;subst ht;exact hv);rw[want_one (f:=F0 st h) h0 rfl]at this;rw[hpo];exact this
include h30 hst in
theorem fin_resume{i:Ins}(ho:i.op=30)(hU:∀k,k<M.units.length→UV M (M.units.getD k default)):gen7 0 (want7 M u i (st.map lt1)) false h (st.map lt1)=out7 (match gen M (pop (F0 st h)).2 with
  |(none,g)=>g
  |(some k,g)=>push (M.units.getD k.toNat default).result (if(pop (F0 st h)).1≠(M.units.getD k.toNat default).takes then fail 9 g else g)):=by
 have hn:2=if i.op=30 then 2 else 1:=by rw[if_pos ho]
 by_cases h0:st.length=0
 ·rw[want7_few (.inl ho) hn (by rw[List.length_map];omega),gen7_err yes12];have e1:(pop (F0 st h)).2=fail 12 (F0 st h):=by rw[pop_no h0]
  have e2:(pop (fail 12 (F0 st h))).2=fail 12 (F0 st h):=by rw[pop_no (f:=fail 12 (F0 st h)) h0];exact err_fail (e:=12) (f:=fail 12 (F0 st h)) yes12
  rw[e1,gen_none (by rw[e2];exact yes12),e2];exact(out_err (e:=12) rfl yes12).symm
 have hpo:=pop_ok (f:=F0 st h) h0;rw[hpo];have hl1:(st.take (st.length-1)).length=st.length-1:=by rw[List.length_take];omega
 by_cases h1:st.length=1
 ·rw[want7_few (.inl ho) hn (by rw[List.length_map];omega),gen7_err yes12];have e2:=pop_no (f:={F0 st h with stack:=st.take (st.length-1)}) (by show(st.take (st.length-1)).length=0;omega);rw[gen_none (by rw[e2];exact yes12),e2];exact(out_err (e:=12) rfl yes12).symm
 have e2:(st.take (st.length-1)).getD ((st.take (st.length-1)).length-1) 0=st.getD (st.length-2) 0:=by
  rw[hl1,List.getD_eq_getElem?_getD,List.getElem?_take,if_pos (by omega),List.getD_eq_getElem?_getD];rfl
 have hpo2:=pop_ok (f:={F0 st h with stack:=st.take (st.length-1)}) (by show(st.take (st.length-1)).length≠0;omega);have hp21:(pop ({F0 st h with stack:=st.take (st.length-1)}:Flow)).1=st.getD (st.length-2) 0:=by rw[hpo2];exact e2
 have hp22:(pop ({F0 st h with stack:=st.take (st.length-1)}:Flow)).2.err=0:=by rw[hpo2]
 have hv:=hst _ (getD_in (st:=st) (k:=st.length-2) (by omega));have hr:=hv.rng h30;obtain⟨p1,p2⟩:=lt1_pl hr;have hat:(st.map lt1).getD ((st.map lt1).length-2) 0=lt1 (st.getD (st.length-2) 0):=by rw[List.length_map];exact map_at (by omega)
 by_cases hp:st.getD (st.length-2) 0=1∨st.getD (st.length-2) 0=2
 ·rw[want7_pl (.inl ho) hn (by rw[List.length_map];omega) (by rw[hat];exact hp.imp p1.2 p2.2),gen7_err yes9,gen_no hp22 (by rw[hp21];exact handle_pl hp)];refine(out_err (e:=9) ?_ yes9).symm;dsimp only;unfold fail;rw[if_pos hp22]
 have hh:=vt_handle hv hp;rw[want7_ok (.inl ho) hn (by rw[List.length_map];omega) (by rw[hat];exact fun hx=>hp (hx.imp p1.1 p2.1)),if_pos ho,hat,gen_yes hp22 (by rw[hp21];exact hh),hp21];obtain⟨q1,q2,q3⟩:=handle_iff.1 hh;have hk:(lt1 (st.getD (st.length-2) 0)).toNat-65=(st.getD (st.length-2) 0-10).toNat:=by
  rw[lt1_nat (by omega)];omega
 rw[hk,hpo2];dsimp only;have hux:=hU (st.getD (st.length-2) 0-10).toNat (by omega);generalize M.units.getD (st.getD (st.length-2) 0-10).toNat default=x at *;have htk:=hux.tak q3;have hre:=hux.res (by omega);have htv:VT M x.takes:=htk.imp id .inl;have hf:=fin_push (h:=h) h30 hst [st.getD (st.length-2) 0,x.takes] x.result (fun t ht=>by
  simp at ht;rcases ht with rfl|rfl
  ·exact hv
  ·exact htv)
 refine Eq.trans ?_ (hf.trans ?_)
 ·rfl
 ·have hw:want [st.getD (st.length-2) 0,x.takes] (F0 st h)=want1 (st.getD (st.length-2) 0) (want1 x.takes (F0 st h)):=rfl;rw[hw]
  by_cases ht:st.getD (st.length-1) 0=x.takes
  ·have w1:want1 x.takes (F0 st h)={F0 st h with stack:=st.take (st.length-1)}:=want_one (f:=F0 st h) h0 ht;have w2:want1 (st.getD (st.length-2) 0) ({F0 st h with stack:=st.take (st.length-1)}:Flow)={F0 st h with stack:=(st.take (st.length-1)).take ((st.take (st.length-1)).length-1)}:=want_one (f:={F0 st h with stack:=st.take (st.length-1)}) (by show(st.take (st.length-1)).length≠0;omega) e2;rw[w1,w2,if_neg (fun h=>h ht)]
  ·have w1:want1 x.takes (F0 st h)=fail 9 {F0 st h with stack:=st.take (st.length-1)}:=by
    unfold want1;rw[pop_ok (f:=F0 st h) h0];dsimp only;rw[if_pos ht]
   rw[w1,if_pos ht];have a0:(fail 9 ({F0 st h with stack:=st.take (st.length-1)}:Flow)).err=9:=rfl;have a1:(push x.result (want1 (st.getD (st.length-2) 0) (fail 9 ({F0 st h with stack:=st.take (st.length-1)}:Flow)))).err=9:=by
    rw[err_push (by rw[err_want1 (by rw[a0];exact yes9),a0];exact yes9),err_want1 (by rw[a0];exact yes9),a0]
   have a3:(fail 9 ({F0 st h with stack:=(st.take (st.length-1)).take ((st.take (st.length-1)).length-1)}:Flow)).err=9:=rfl;have a2:(push x.result (fail 9 ({F0 st h with stack:=(st.take (st.length-1)).take ((st.take (st.length-1)).length-1)}:Flow))).err=9:=by
    rw[err_push (by rw[a3];exact yes9),a3]
   rw[out_err a1 yes9,out_err a2 yes9]
end
theorem isUnit_iff{M:Mdl}{i k:Int}:isUnit M i k=true↔0≤i∧i<(M.units.length:Int)∧(M.units.getD i.toNat default).kind=k:=by
 unfold isUnit;simp only[Bool.and_eq_true,decide_eq_true_eq];exact⟨fun⟨⟨a,b⟩,c⟩=>⟨a,b,c⟩,fun⟨a,b,c⟩=>⟨⟨a,b⟩,c⟩⟩
structure Frm(M:Mdl):Prop where
 n30:M.units.length≤30
 uv:∀k,k<M.units.length→UV M (M.units.getD k default)
 bx:∀k,k<M.boxes.length→(M.boxes.getD k default).1=1∨(M.boxes.getD k default).1=2
theorem frm_of{M:Mdl}(hF:FormOk M):Frm M:=by
 refine⟨hF.nunits,fun k hk=>?_,fun k hk=>?_⟩
 ·exact uv_head (hF.units _ (by rw[List.getD_eq_getElem?_getD,List.getElem?_eq_getElem hk];exact List.getElem_mem hk)).1
 ·exact plain_iff.1 (hF.boxes _ (by rw[List.getD_eq_getElem?_getD,List.getElem?_eq_getElem hk];exact List.getElem_mem hk)).1
section
variable{M:Mdl}(hF:Frm M){u:Unt}(hu:UV M u){i:Ins}(hi:InsOk M u i){st:List Int}{h:List Bool}(hst:∀t∈st,VT M t)(hl:st.length≤300)
include hF in
theorem par_vt{k:Int}{kd:Int}(hk:isUnit M k kd=true):∀t∈(M.units.getD k.toNat default).locals.take (M.units.getD k.toNat default).params.toNat,VT M t:=fun t ht=>by
 have:=isUnit_iff.1 hk;exact(hF.uv k.toNat (by omega)).loc t (List.mem_of_mem_take ht)
theorem vt_pl{t:Int}(h:t=1∨t=2):VT M t:=h.imp id .inl
theorem getD_loc{l:List Int}{k:Nat}(hk:k<l.length):l.getD k 0∈l:=getD_in hk
include hF hu hi hst hl in
theorem core_eq:core7 M u i (st.map lt1) h=out7 (sem M u i (st,h)):=by
 have h30:=hF.n30;have hop:=hi.op;have v1:VT M 1:= .inl rfl;have v2:VT M 2:= .inr (.inl rfl);have one:∀{t:Int},VT M t→∀x∈[t],VT M x:=fun ht x hx=>by simp at hx;subst hx;exact ht
 have two:∀{t s:Int},VT M t→VT M s→∀x∈[t,s],VT M x:=fun ht hs x hx=>by
  simp at hx;rcases hx with rfl|rfl
  ·exact ht
  ·exact hs
 have nil:∀x∈([]:List Int),VT M x:=fun x hx=>by cases hx
 rw[core_gen]
 --what needs no handle
 have w0:¬(i.op=30∨i.op=32)→want7 M u i (st.map lt1)=(0,needs7 M u i):=fun hn=>by unfold want7;rw[if_neg hn]
 have p0:i.op≠3→i.op≠24→i.op≠25→i.op≠31→pre7 u i h=0:=fun a b c d=>by unfold pre7;rw[if_neg (fun hx=>a hx.1),if_neg (by omega)]
 have d0:i.op≠24→i.op≠25→decide (i.op=24∨i.op=25)=false:=fun a b=>decide_eq_false (by omega)
 unfold sem core
 by_cases o21:i.op=21
 ·rw[if_pos o21,p0 (by omega) (by omega) (by omega) (by omega),w0 (by omega),d0 (by omega) (by omega),if_neg (by omega)];have e:needs7 M u i=([],[]):=by unfold needs7;rw[if_neg (by omega),if_neg (by omega),if_neg (by omega),if_neg (by omega),if_neg (by omega),if_neg (by omega),if_neg (by omega),if_neg (by omega),if_neg (by omega),if_neg (by omega),if_neg (by omega),if_neg (by omega),if_neg (by omega),if_neg (by omega),if_neg (by omega),if_neg (by omega),if_neg (by omega),if_neg (by omega),if_neg (by omega)]
  rw[e];have:=fin_want (h:=h) h30 hst hl [] h nil;exact this
 rw[if_neg o21]
 by_cases o22:i.op=22
 ·rw[if_pos o22,p0 (by omega) (by omega) (by omega) (by omega),w0 (by omega),d0 (by omega) (by omega),if_neg (by omega)];have e:needs7 M u i=([98],[]):=by unfold needs7;rw[o22];rfl
  rw[e];have:=fin_want (h:=h) h30 hst hl [2] h (one v2);rw[show({want [2] (F0 st h)with has:=h}:Flow)=want [2] (F0 st h) by
   have:=want_has [2] (F0 st h);generalize want [2] (F0 st h)=g at *;obtain⟨a,b,c,d,e⟩:=g;dsimp only at this;subst this;rfl]at this
  exact this
 rw[if_neg o22];unfold Ver.step;rw[if_neg o21,if_neg o22]
 by_cases o1:i.op=1
 ·rw[if_pos o1,p0 (by omega) (by omega) (by omega) (by omega),w0 (by omega),d0 (by omega) (by omega),if_neg (by omega)];have e:needs7 M u i=([],[110]):=by unfold needs7;rw[o1];rfl
  rw[e];exact fin_push h30 hst [] 1 nil
 rw[if_neg o1]
 by_cases o2:i.op=2
 ·rw[if_pos o2,p0 (by omega) (by omega) (by omega) (by omega),w0 (by omega),d0 (by omega) (by omega),if_neg (by omega)];have e:needs7 M u i=([],[98]):=by unfold needs7;rw[o2];rfl
  rw[e];exact fin_push h30 hst [] 2 nil
 rw[if_neg o2]
 by_cases o3:i.op=3
 ·rw[if_pos o3]
  by_cases hh:h.getD i.a.toNat false=true
  ·rw[if_pos hh,w0 (by omega),d0 (by omega) (by omega),if_neg (by omega)];have e:needs7 M u i=([],[lt1 (u.locals.getD i.a.toNat 0)]):=by unfold needs7;rw[if_neg o1,if_neg o2,if_pos o3]
   have ep:pre7 u i h=0:=by unfold pre7;rw[if_neg (fun hx=>by rw[hh]at hx;cases hx.2),if_neg (by omega)]
   rw[e,ep];exact fin_push h30 hst [] _ nil
  ·have hh':h.getD i.a.toNat false=false:=by simpa using hh
   have ep:pre7 u i h=11:=by unfold pre7;rw[if_pos ⟨o3,hh'⟩]
   rw[ep,gen_pre yes11,if_neg hh];refine(out_err (e:=11) ?_ yes11).symm;exact err_push (f:=fail 11 (F0 st h)) yes11
 rw[if_neg o3]
 by_cases o4:i.op=4
 ·rw[if_pos o4,p0 (by omega) (by omega) (by omega) (by omega),w0 (by omega),d0 (by omega) (by omega),if_pos o4];have e:needs7 M u i=([lt1 (u.locals.getD i.a.toNat 0)],[]):=by unfold needs7;rw[if_neg o1,if_neg o2,if_neg o3,if_pos o4]
  rw[e];have hlc:=hi.loc (.inr o4);have:=fin_want (h:=h) h30 hst hl [u.locals.getD i.a.toNat 0] (h.set i.a.toNat true) (one (hu.loc _ (getD_loc (by omega))));refine this.trans ?_;rw[show(want [u.locals.getD i.a.toNat 0] (F0 st h)).has=h from want_has _ _]
 rw[if_neg o4,if_neg (show¬i.op=4 from o4)]
 by_cases o5:i.op=5
 ·rw[if_pos o5,p0 (by omega) (by omega) (by omega) (by omega),w0 (by omega),d0 (by omega) (by omega)];have e:needs7 M u i=([42],[]):=by unfold needs7;rw[o5];rfl
  rw[e];exact fin_pop h30 hst hl
 rw[if_neg o5]
 by_cases o6:i.op=6
 ·rw[if_pos o6,p0 (by omega) (by omega) (by omega) (by omega),w0 (by omega),d0 (by omega) (by omega)];have e:needs7 M u i=([110],[110]):=by unfold needs7;rw[o6];rfl
  rw[e];exact fin_push h30 hst [1] 1 (one v1)
 rw[if_neg o6]
 by_cases o7:i.op=7
 ·rw[if_pos o7,p0 (by omega) (by omega) (by omega) (by omega),w0 (by omega),d0 (by omega) (by omega)];have e:needs7 M u i=([98],[98]):=by unfold needs7;rw[o7];rfl
  rw[e];exact fin_push h30 hst [2] 2 (one v2)
 rw[if_neg o7]
 by_cases o8:8≤i.op∧i.op≤12
 ·rw[if_pos o8,p0 (by omega) (by omega) (by omega) (by omega),w0 (by omega),d0 (by omega) (by omega)];have e:needs7 M u i=([110,110],[110]):=by unfold needs7;rw[if_neg o1,if_neg o2,if_neg o3,if_neg o4,if_neg o5,if_neg o6,if_neg o7,if_pos o8.2]
  rw[e];exact fin_push h30 hst [1,1] 1 (two v1 v1)
 rw[if_neg o8]
 by_cases o13:i.op=13∨i.op=14
 ·rw[if_pos o13,p0 (by omega) (by omega) (by omega) (by omega),w0 (by omega),d0 (by omega) (by omega)];have e:needs7 M u i=([63,63],[98]):=by unfold needs7;rw[if_neg o1,if_neg o2,if_neg o3,if_neg o4,if_neg o5,if_neg o6,if_neg o7,if_neg (by omega),if_pos o13]
  rw[e];exact fin_eq h30 hst hl
 rw[if_neg o13]
 by_cases o15:15≤i.op∧i.op≤18
 ·rw[if_pos o15,p0 (by omega) (by omega) (by omega) (by omega),w0 (by omega),d0 (by omega) (by omega)];have e:needs7 M u i=([110,110],[98]):=by unfold needs7;rw[if_neg o1,if_neg o2,if_neg o3,if_neg o4,if_neg o5,if_neg o6,if_neg o7,if_neg (by omega),if_neg o13,if_pos o15.2]
  rw[e];exact fin_push h30 hst [1,1] 2 (two v1 v1)
 rw[if_neg o15];have n18:¬i.op≤18:=by omega
 by_cases o19:i.op=19∨i.op=20
 ·rw[if_pos o19,p0 (by omega) (by omega) (by omega) (by omega),w0 (by omega),d0 (by omega) (by omega)];have e:needs7 M u i=([98,98],[98]):=by unfold needs7;rw[if_neg o1,if_neg o2,if_neg o3,if_neg o4,if_neg o5,if_neg o6,if_neg o7,if_neg (by omega),if_neg o13,if_neg n18,if_pos o19]
  rw[e];exact fin_push h30 hst [2,2] 2 (two v2 v2)
 rw[if_neg o19];have nd:needs7 M u i=if i.op=23 then(par7 M i.a,[res7 M i.a])
   else if i.op=24 then([lt1 u.result],[])
   else if i.op=26 then([lt1 (M.boxes.getD i.a.toNat default).1],[])
   else if i.op=27 then([],[lt1 (M.boxes.getD i.a.toNat default).1])
   else if i.op=28 then([63],[])
   else if i.op=29 then(par7 M i.a,[lt1 (10+i.a)])
   else if i.op=31 then([lt1 u.result],[lt1 u.takes])
   else([],[]):=by
  unfold needs7;rw[if_neg o1,if_neg o2,if_neg o3,if_neg o4,if_neg o5,if_neg o6,if_neg o7,if_neg (by omega),if_neg o13,if_neg n18,if_neg o19,if_neg o22]
 unfold special
 by_cases o23:i.op=23
 ·rw[if_pos o23,p0 (by omega) (by omega) (by omega) (by omega),w0 (by omega),d0 (by omega) (by omega),nd,if_pos o23];exact fin_push h30 hst _ _ (par_vt hF (hi.call o23))
 rw[if_neg o23]at nd⊢
 by_cases o29:i.op=29
 ·rw[if_pos o29,p0 (by omega) (by omega) (by omega) (by omega),w0 (by omega),d0 (by omega) (by omega),nd,if_neg (by omega),if_neg (by omega),if_neg (by omega),if_neg (by omega),if_pos o29];exact fin_push h30 hst _ _ (par_vt hF (hi.start o29))
 rw[if_neg o29]
 by_cases o24:i.op=24
 ·rw[if_pos o24,w0 (by omega),decide_eq_true (show i.op=24∨i.op=25 from .inl o24),nd,if_pos o24]
  by_cases hk:u.kind=2
  ·have ep:pre7 u i h=0:=by unfold pre7;rw[if_neg (by omega),if_neg (by omega)]
   rw[ep,if_neg (fun h=>h hk)];exact fin_done h30 hst hl [u.result] (one (vt_pl (hu.res (by omega))))
  ·have ep:pre7 u i h=8:=by unfold pre7;rw[if_neg (by omega),if_pos (.inl ⟨o24,hk⟩)]
   rw[ep,gen_pre yes8,if_pos hk];refine(out_err (e:=8) ?_ yes8).symm;have e1:(want [u.result] (fail 8 (F0 st h))).err=8:=err_want (f:=fail 8 (F0 st h)) yes8;unfold done
   split
   ·exact e1
   ·rw[err_fail (by rw[e1];exact yes8)];exact e1
 rw[if_neg o24]at nd⊢
 by_cases o25:i.op=25
 ·rw[if_pos o25,w0 (by omega),decide_eq_true (show i.op=24∨i.op=25 from .inr o25),nd,if_neg (by omega),if_neg (by omega),if_neg (by omega),if_neg o29,if_neg (by omega)]
  by_cases hk:u.kind=2
  ·have ep:pre7 u i h=8:=by unfold pre7;rw[if_neg (by omega),if_pos (.inr (.inl ⟨o25,hk⟩))]
   rw[ep,gen_pre yes8,if_pos hk];refine(out_err (e:=8) ?_ yes8).symm;unfold done
   split
   ·rfl
   ·rfl
  ·have ep:pre7 u i h=0:=by unfold pre7;rw[if_neg (by omega),if_neg (by omega)]
   rw[ep,if_neg hk];exact fin_done h30 hst hl [] nil
 rw[if_neg o25]
 by_cases o26:i.op=26
 ·rw[if_pos o26,p0 (by omega) (by omega) (by omega) (by omega),w0 (by omega),d0 (by omega) (by omega),nd,if_pos o26];have hb:=hi.box (.inl o26);have:=fin_want (h:=h) h30 hst hl [(M.boxes.getD i.a.toNat default).1] h (one (vt_pl (hF.bx i.a.toNat (by omega))));refine this.trans ?_;have hh:=want_has [(M.boxes.getD i.a.toNat default).1] (F0 st h);generalize want [(M.boxes.getD i.a.toNat default).1] (F0 st h)=g at *;obtain⟨a,b,c,d,e⟩:=g;dsimp only at hh;subst hh;rfl
 rw[if_neg o26]at nd⊢
 by_cases o27:i.op=27
 ·rw[if_pos o27,p0 (by omega) (by omega) (by omega) (by omega),w0 (by omega),d0 (by omega) (by omega),nd,if_pos o27];exact fin_push h30 hst [] _ nil
 rw[if_neg o27]at nd⊢
 by_cases o28:i.op=28
 ·rw[if_pos o28,p0 (by omega) (by omega) (by omega) (by omega),w0 (by omega),d0 (by omega) (by omega),nd,if_pos o28];exact fin_out h30 hst hl
 rw[if_neg o28]at nd⊢;rw[if_neg o29]at nd
 by_cases o30:i.op=30
 ·rw[if_pos o30,p0 (by omega) (by omega) (by omega) (by omega),d0 (by omega) (by omega)];exact fin_resume h30 hst o30 hF.uv
 rw[if_neg o30]
 by_cases o31:i.op=31
 ·rw[if_pos o31,w0 (by omega),d0 (by omega) (by omega),nd,if_pos o31]
  by_cases hk:u.kind=3
  ·have ep:pre7 u i h=0:=by unfold pre7;rw[if_neg (by omega),if_neg (by omega)]
   rw[ep,if_neg (fun h=>h hk)];exact fin_push h30 hst [u.result] _ (one (vt_pl (hu.res (by omega))))
  ·have ep:pre7 u i h=8:=by unfold pre7;rw[if_neg (by omega),if_pos (.inr (.inr ⟨o31,hk⟩))]
   rw[ep,gen_pre yes8,if_pos hk];refine(out_err (e:=8) ?_ yes8).symm;have e1:(want [u.result] (fail 8 (F0 st h))).err=8:=err_want (f:=fail 8 (F0 st h)) yes8;rw[err_push (by rw[e1];exact yes8)];exact e1
 rw[if_neg o31];have o32:i.op=32:=by omega
 rw[if_pos o32,p0 (by omega) (by omega) (by omega) (by omega),d0 (by omega) (by omega)];exact fin_alive h30 hst o32
include hF hu hi hst in
theorem core_vt(he:(sem M u i (st,h)).err=0):∀t∈(sem M u i (st,h)).stack,VT M t:=by
 have hd:=Vm.sem_does hi.op he;have app:∀{s r:List Int},(∀t∈s,VT M t)→(∀t∈r,VT M t)→∀t∈s ++r,VT M t:=fun a b t ht=>by
  rcases List.mem_append.1 ht with h|h
  ·exact a t h
  ·exact b t h
 have one:∀{t:Int},VT M t→∀x∈[t],VT M x:=fun ht x hx=>by simp at hx;subst hx;exact ht
 generalize(sem M u i (st,h)).stack=s' at *;generalize(sem M u i (st,h)).has=h' at *;have left:∀{a b:List Int},(∀t∈a ++b,VT M t)→∀t∈a,VT M t:=fun hx t ht=>hx t (List.mem_append_left _ ht)
 cases hd with
 |const st h ho=>exact app hst (one (by rcases ho with ho|ho<;>rw[ho];exact .inl rfl;exact .inr (.inl rfl)))
 |load st h ho hh=>
  have:=hi.loc (.inl ho);exact app hst (one (hu.loc _ (getD_loc (by omega))))
 |store st h ho=>exact left hst
 |drop st h t ho=>exact left hst
 |neg st h ho=>exact hst
 |not st h ho=>exact hst
 |arith st h ho=>exact app (left hst) (one (.inl rfl))
 |eq st h t ho ht=>exact app (left hst) (one (.inr (.inl rfl)))
 |cmp st h ho=>exact app (left hst) (one (.inr (.inl rfl)))
 |logic st h ho=>exact app (left hst) (one (.inr (.inl rfl)))
 |jump st h ho=>exact hst
 |els st h ho=>exact left hst
 |call st h ho=>
  have:=isUnit_iff.1 (hi.call ho);exact app (left hst) (one (vt_pl ((hF.uv i.a.toNat (by omega)).res (by omega))))
 |ret h ho hk=>exact fun t ht=>by cases ht
 |end_ h ho hk=>exact fun t ht=>by cases ht
 |send st h ho=>exact left hst
 |recv st h ho=>
  have:=hi.box (.inr ho);exact app hst (one (vt_pl (hF.bx i.a.toNat (by omega))))
 |out st h t ho=>exact left hst
 |start st h ho=>
  have hk:=isUnit_iff.1 (hi.start ho);refine app (left hst) (one (.inr (.inr (handle_iff.2 ?_))));refine⟨by omega,by omega,?_⟩;rw[show 10+i.a-10=i.a by omega];exact hk.2.2
 |resume st h k ho hk=>
  obtain⟨q1,q2,q3⟩:=handle_iff.1 hk;rw[show 10+k-10=k by omega]at q2 q3;exact app (left hst) (one (vt_pl ((hF.uv k.toNat (by omega)).res (by omega))))
 |yield st h ho hk=>exact app (left hst) (one (vt_pl (hu.tak hk)))
 |alive st h k ho hk=>exact app (left hst) (one (.inr (.inl rfl)))
end
end Go.Proofs.Ytgnhfinabhimpaa.Rf7
