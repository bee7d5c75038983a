/- What is not come to changes nothing; tasks may be left out. Plain Lean. -/
import Derived.Test.YtgnhfinabhimpaaM08
set_option linter.unusedVariables false
set_option linter.unusedSimpArgs false
set_option linter.unusedSectionVars false
set_option maxRecDepth 100000
namespace Go.Proofs.Ytgnhfinabhimpaa.Ver
open ImgM
theorem owned_ok{M:Mdl}:∀(n b:Nat),(owned M b n).err=0↔∀j,b≤j→j<b+n→¬(1<users M 26 j∨1<users M 27 j)
 |0,b=>by
  unfold owned;exact⟨fun _ j h1 h2=>by omega,fun _=>rfl⟩
 |n+1,b=>by
  by_cases h:1<users M 26 b∨1<users M 27 b
  ·rw[owned_1 h];exact⟨fun h'=>by simp at h',fun h'=>absurd h (h' b (Nat.le_refl _) (by omega))⟩
  ·rw[owned_2 h,owned_ok n (b+1)];constructor
   ·intro h' j h1 h2
    by_cases hj:j=b
    ·subst hj;exact h
    ·exact h' j (by omega) (by omega)
   ·intro h' j h1 h2;exact h' j (by omega) (by omega)
theorem owned_eq{M:Mdl}:∀(n b:Nat),(owned M b n).err=0→owned M b n= .ok
 |0,_,_=>by unfold owned;rfl
 |n+1,b,h=>by
  by_cases hu:1<users M 26 b∨1<users M 27 b
  ·rw[owned_1 hu]at h;simp at h
  ·rw[owned_2 hu]at h⊢;exact owned_eq n _ h
structure Right(M:Mdl):Prop where
 form:FormOk M
 code:∀k,k<M.units.length→(code M k).err=0
 owned:∀b,b<M.boxes.length→users M 26 b≤1∧users M 27 b≤1
theorem verify_ok{M:Mdl}:(verify M).err=0↔Right M:=by
 by_cases h:(form M).err=0
 ·by_cases h2:(codes M 0 M.units.length).err=0
  ·rw[verify_3 h h2,owned_ok];constructor
   ·intro h3;refine⟨form_ok.1 h,fun k hk=>(codes_ok _ _).1 h2 k (Nat.zero_le _) (by omega),fun b hb=>?_⟩;have:=h3 b (Nat.zero_le _) (by omega);omega
   ·rintro⟨-, -,h3⟩ j-hj;have:=h3 j (by omega);omega
  ·rw[verify_2 h h2];exact⟨fun h'=>absurd h' h2,fun h'=>absurd ((codes_ok _ _).2 (fun j _ hj=>h'.code j (by omega))) h2⟩
 ·rw[verify_1 h];exact⟨fun h'=>absurd h' h,fun h'=>absurd (form_ok.2 h'.form) h⟩
theorem verify_eq{M:Mdl}(h:(verify M).err=0):verify M= .ok:=by
 by_cases h1:(form M).err=0
 ·by_cases h2:(codes M 0 M.units.length).err=0
  ·rw[verify_3 h1 h2]at h⊢;exact owned_eq _ _ h
  ·rw[verify_2 h1 h2]at h;exact absurd h h2
 ·rw[verify_1 h1]at h;exact absurd h h1
theorem verify_iff{M:Mdl}:verify M= .ok↔Right M:=⟨fun h=>verify_ok.1 (by rw[h];rfl),fun h=>verify_eq (verify_ok.2 h)⟩
abbrev uAt(M:Mdl)(k:Int):Unt:=M.units.getD k.toNat default
structure AlikeM(M M':Mdl):Prop where
 nun:M.units.length≤M'.units.length
 nbx:M.boxes.length≤M'.boxes.length
 units:∀k:Int,0≤k→k<(M.units.length:Int)→(uAt M k).kind=2∨(uAt M k).kind=3→(uAt M' k).kind=(uAt M k).kind∧(uAt M' k).locals=(uAt M k).locals∧(uAt M' k).params=(uAt M k).params∧(uAt M' k).result=(uAt M k).result∧(uAt M' k).takes=(uAt M k).takes
 boxes:∀k,k<M.boxes.length→M'.boxes.getD k default=M.boxes.getD k default
structure AlikeU(u u':Unt):Prop where
 kind:u'.kind=u.kind
 params:u'.params=u.params
 locals:u'.locals=u.locals
 result:u'.result=u.result
 takes:u'.takes=u.takes
 len:u.code.length≤u'.code.length
 ins:∀p:Int,0≤p→p<(u.code.length:Int)→ins u' p=ins u p
section
variable{M M':Mdl}(hM:AlikeM M M'){u u':Unt}(hU:AlikeU u u')
include hM
theorem unit_alike{i kind:Int}(hk:kind=2∨kind=3)(h:isUnit M i kind=true):isUnit M' i kind=true∧(uAt M' i).locals=(uAt M i).locals∧(uAt M' i).params=(uAt M i).params∧(uAt M' i).result=(uAt M i).result∧(uAt M' i).takes=(uAt M i).takes:=by
 obtain⟨h1,h2,h3⟩:=unit_eq h;obtain⟨k1,k2⟩:=hM.units i h1 h2 (by rw[←h3]at hk;exact hk);refine⟨?_,k2⟩;have:=hM.nun;simp only[isUnit,Bool.and_eq_true,decide_eq_true_eq];exact⟨⟨h1,by omega⟩,k1.trans h3⟩
theorem handle_alike{t:Int}(h:handle M t=true):handle M' t=true:=by
 unfold handle at h⊢;rw[Bool.and_eq_true]at h⊢;exact⟨h.1,(unit_alike hM (.inr rfl) h.2).1⟩
theorem args_alike{i kind:Int}(hk:kind=2∨kind=3)(h:isUnit M i kind=true)(f:Flow):args M' i f=args M i f:=by
 obtain⟨-,h1,h2, -⟩:=unit_alike hM hk h;unfold args;show want ((uAt M' i).locals.take (uAt M' i).params.toNat) f=want ((uAt M i).locals.take (uAt M i).params.toNat) f;rw[h1,h2]
theorem gen_alike{f:Flow}(he:(gen M f).2.err=0):gen M' f=gen M f∧∀k,(gen M f).1=some k→isUnit M k 3=true:=by
 unfold gen at he⊢
 by_cases h1:(pop f).2.err≠0
 ·rw[if_pos h1]at he;exact absurd he h1
 rw[if_neg h1]at he⊢;rw[if_neg h1]
 by_cases h2:handle M (pop f).1=false
 ·rw[if_pos h2]at he;exact absurd he (fail_err 9 (by decide) _)
 have h3:handle M (pop f).1=true:=by simpa using h2
 rw[if_neg h2,if_neg (by rw[handle_alike hM h3];decide)];refine⟨rfl,fun k hk=>?_⟩;simp only[Option.some.injEq]at hk;rw[←hk];unfold handle at h3;rw[Bool.and_eq_true]at h3;exact h3.2
end
theorem fail_err0{e:Int}{f:Flow}(h:(fail e f).err=0):f.err=0:=by
 by_cases h1:f.err=0
 ·exact h1
 ·rw[(fail_kept e f).err h1]at h;exact h
theorem push_err0{t:Int}{f:Flow}(h:(push t f).err=0):f.err=0:=by
 unfold push at h
 split at h
 ·exact fail_err0 (f:={f with stack:=f.stack ++[t]}) h
 ·exact h
theorem step_special{M:Mdl}{u:Unt}{i:Ins}{f:Flow}(h:23≤i.op):step M u i f=special M u i f:=by
 unfold step;rw[if_neg (by omega),if_neg (by omega),if_neg (by omega),if_neg (by omega),if_neg (by omega),if_neg (by omega),if_neg (by omega),if_neg (by omega),if_neg (by omega),if_neg (by omega),if_neg (by omega),if_neg (by omega),if_neg (by omega)]
theorem ite_c{α:Type}{c:Prop} [Decidable c]{x a b:α}(h:¬c→a=b):(if c then x else a)=(if c then x else b):=by
 split
 ·rfl
 ·exact h ‹_›
section
variable{M M':Mdl}(hM:AlikeM M M'){u u':Unt}(hU:AlikeU u u')
include hM hU
theorem special_alike{i:Ins}(hi:InsOk M u i){f:Flow}(he:(special M u i f).2.err=0):special M' u' i f=special M u i f:=by
 unfold special at he⊢;rw[hU.kind,hU.result,hU.takes]
 by_cases h1:i.op=23
 ·rw[if_pos h1,if_pos h1,args_alike hM (.inl rfl) (hi.call h1)];have:=(unit_alike hM (.inl rfl) (hi.call h1)).2.2.2.1;rw[show(M'.units.getD i.a.toNat default).result=(M.units.getD i.a.toNat default).result from this]
 rw[if_neg h1]at he;rw[if_neg h1,if_neg h1]
 by_cases h2:i.op=29
 ·rw[if_pos h2,if_pos h2,args_alike hM (.inr rfl) (hi.start h2)]
 rw[if_neg h2]at he;rw[if_neg h2,if_neg h2]
 by_cases h3:i.op=24
 ·rw[if_pos h3,if_pos h3]
 rw[if_neg h3]at he;rw[if_neg h3,if_neg h3]
 by_cases h4:i.op=25
 ·rw[if_pos h4,if_pos h4]
 rw[if_neg h4]at he;rw[if_neg h4,if_neg h4]
 by_cases h5:i.op=26
 ·have:=hi.box (.inl h5);rw[if_pos h5,if_pos h5,hM.boxes _ (by omega)]
 rw[if_neg h5]at he;rw[if_neg h5,if_neg h5]
 by_cases h6:i.op=27
 ·have:=hi.box (.inr h6);rw[if_pos h6,if_pos h6,hM.boxes _ (by omega)]
 rw[if_neg h6]at he;rw[if_neg h6,if_neg h6]
 by_cases h7:i.op=28
 ·rw[if_pos h7,if_pos h7]
 rw[if_neg h7]at he;rw[if_neg h7,if_neg h7]
 by_cases h8:i.op=30
 ·rw[if_pos h8]at he;rw[if_pos h8,if_pos h8];have hge:(gen M (pop f).2).2.err=0:=by
   generalize gen M (pop f).2=G at *;obtain⟨o,g⟩:=G
   cases o with
   |none=>exact he
   |some k=>
    have:=push_err0 he
    split at this
    ·exact fail_err0 this
    ·exact this
  obtain⟨e1,e2⟩:=gen_alike hM hge;rw[e1];generalize gen M (pop f).2=G at *;obtain⟨o,g⟩:=G
  cases o with
  |none=>rfl
  |some k=>
   obtain⟨-, -, -,k1,k2⟩:=unit_alike hM (.inr rfl) (e2 k rfl);simp only;rw[show(M'.units.getD k.toNat default).result=(M.units.getD k.toNat default).result from k1,show(M'.units.getD k.toNat default).takes=(M.units.getD k.toNat default).takes from k2]
 rw[if_neg h8]at he;rw[if_neg h8,if_neg h8]
 by_cases h9:i.op=31
 ·rw[if_pos h9,if_pos h9]
 rw[if_neg h9]at he;rw[if_neg h9,if_neg h9]
 by_cases h10:i.op=32
 ·rw[if_pos h10]at he;rw[if_pos h10,if_pos h10,(gen_alike hM (push_err0 he)).1]
 rw[if_neg h10,if_neg h10]
theorem step_alike{i:Ins}(hi:InsOk M u i)(h21:i.op≠21)(h22:i.op≠22){f:Flow}(he:(step M u i f).2.err=0):step M' u' i f=step M u i f:=by
 by_cases h:23≤i.op
 ·rw[step_special h]at he⊢;rw[step_special h];exact special_alike hM hU hi he
 ·have:=hi.op;unfold step;rw[hU.locals];refine ite_c fun _=>ite_c fun _=>ite_c fun _=>ite_c fun _=>ite_c fun _=>ite_c fun _=>ite_c fun _=>ite_c fun _=>ite_c fun _=>ite_c fun _=>ite_c fun _=>?_
  exfalso;omega
theorem sem_alike{i:Ins}(hi:InsOk M u i){s:Shape}(he:(sem M u i s).err=0):sem M' u' i s=sem M u i s:=by
 unfold sem core at *
 by_cases h21:i.op=21
 ·rw[if_pos h21,if_pos h21]
 rw[if_neg h21]at he;rw[if_neg h21,if_neg h21]
 by_cases h22:i.op=22
 ·rw[if_pos h22,if_pos h22]
 rw[if_neg h22]at he;rw[if_neg h22,if_neg h22];rw[step_alike hM hU hi h21 h22 he]
theorem Cert.alike(hg:∀i∈u.code,instr M u i=0){τ:Int→Option Shape}(hc:Cert M u τ):Cert M' u' τ:=by
 have hl:=hU.len;refine⟨?_,fun p s hp=>?_,fun p s hp=>?_⟩
 ·have:=hc.start;unfold has0 at this⊢;rw[hU.params,hU.locals];exact this
 ·have:=hc.rng p s hp;omega
 ·obtain⟨r1,r2⟩:=hc.rng p s hp;have hf:=hc.fits p s hp;have hi:InsOk M u (ins u p):=by
   refine instr_ok (hg _ ?_);unfold ins;rw[List.getD_eq_getElem?_getD,List.getElem?_eq_getElem (by omega)];exact List.getElem_mem _
  have hs:=sem_alike hM hU hi hf.ok;refine⟨?_,fun q hq=>?_⟩
  ·rw[hU.ins p r1 r2,hs];exact hf.ok
  ·rw[hU.ins p r1 r2]at hq⊢;rw[hs];exact hf.next q hq
theorem instr_alike{i:Ins}(h:instr M u i=0):instr M' u' i=0:=by
 have hl:=hU.len;have hb:=hM.nbx;have ho:=instr_ok h;unfold instr at h⊢;rw[hU.locals]
 by_cases h1:i.op=2
 ·rw[if_pos h1]at h⊢;exact h
 rw[if_neg h1]at h⊢
 by_cases h2:i.op=3∨i.op=4
 ·rw[if_pos h2]at h⊢;exact h
 rw[if_neg h2]at h⊢
 by_cases h3:i.op=21∨i.op=22
 ·rw[if_pos h3];have:=ho.jump h3;simp only[rng,Bool.and_eq_true,decide_eq_true_eq];rw[if_pos ⟨this.1,by omega⟩]
 rw[if_neg h3]at h⊢
 by_cases h4:i.op=23
 ·rw[if_pos h4,(unit_alike hM (.inl rfl) (ho.call h4)).1];rfl
 rw[if_neg h4]at h⊢
 by_cases h5:i.op=29
 ·rw[if_pos h5,(unit_alike hM (.inr rfl) (ho.start h5)).1];rfl
 rw[if_neg h5]at h⊢
 by_cases h6:i.op=26∨i.op=27
 ·rw[if_pos h6];have:=ho.box h6;simp only[rng,Bool.and_eq_true,decide_eq_true_eq];rw[if_pos ⟨this.1,by omega⟩]
 rw[if_neg h6]at h⊢;exact h
theorem head_alike(h:head M u=0)(hn:u'.code.length≤4000):head M' u'=0:=by
 have hl:=hU.len;unfold head at h⊢;rw[hU.kind,hU.params,hU.locals,hU.result,hU.takes]
 by_cases h1:u.kind≠2∧u.kind≠3∧u.kind≠4
 ·rw[if_pos h1]at h;cases h
 rw[if_neg h1]at h⊢
 by_cases h2:200<u.locals.length∨u.params<0∨6<u.params∨(u.locals.length:Int)<u.params∨(u.kind=4∧0<u.params)
 ·rw[if_pos h2]at h;cases h
 rw[if_neg h2]at h⊢
 by_cases h3:u.code.length<1∨4000<u.code.length
 ·rw[if_pos h3]at h;cases h
 rw[if_neg h3]at h;rw[if_neg (by omega)]
 by_cases h4:(u.kind≠4∧plain u.result=false)∨(u.kind=3∧plain u.takes=false)
 ·rw[if_pos h4]at h;cases h
 rw[if_neg h4]at h⊢
 by_cases h5:u.locals.any (fun t=>!plain t&& !handle M t)=true
 ·rw[if_pos h5]at h;cases h
 rw[if_neg];intro hn;refine h5 ?_;rw[List.any_eq_true]at hn⊢;obtain⟨t,t1,t2⟩:=hn;refine⟨t,t1,?_⟩;rw[Bool.and_eq_true]at t2⊢;refine⟨t2.1,?_⟩
 cases hh:handle M t with
 |false=>rfl
 |true=>rw[handle_alike hM hh]at t2;exact absurd t2.2 (by decide)
end
def key(c:List Ins):List Ins:=c.filter fun i=>decide (i.op=23)||decide (i.op=29)||decide (i.op=26)||decide (i.op=27)
theorem calls_key:∀(l:List Ins) (out:List Int),calls (key l) out=calls l out
 |[],_=>rfl
 |i::l,out=>by
  unfold key;rw[List.filter_cons]
  by_cases h:(decide (i.op=23)||decide (i.op=29)||decide (i.op=26)||decide (i.op=27))=true
  ·rw[if_pos h,calls_cons,calls_cons];exact calls_key l _
  ·rw[if_neg h,calls_cons];have:call1 out i=out:=by
    unfold call1;rw[if_neg];simp at h;omega
   rw[this];exact calls_key l _
theorem any_key{op b:Int}(ho:op=26∨op=27):∀l:List Ins,(key l).any (fun i=>decide (i.op=op)&&decide (i.a=b))=l.any (fun i=>decide (i.op=op)&&decide (i.a=b))
 |[]=>rfl
 |i::l=>by
  unfold key;rw[List.filter_cons]
  by_cases h:(decide (i.op=23)||decide (i.op=29)||decide (i.op=26)||decide (i.op=27))=true
  ·rw[if_pos h,List.any_cons,List.any_cons];rw[←any_key ho l];rfl
  ·rw[if_neg h,List.any_cons,←any_key ho l];have:decide (i.op=op)=false:=by
    simp at h;simp only[decide_eq_false_iff_not];omega
   rw[this];rfl
theorem call1_mem{out:List Int}{i:Ins}{x:Int}(h:x∈call1 out i):x∈out∨((i.op=23∨i.op=29)∧i.a=x):=by
 unfold call1 at h
 split at h
 ·rename_i h1
  rcases List.mem_append.1 h with h|h
  ·exact .inl h
  ·simp at h;exact .inr ⟨h1.1,h.symm⟩
 ·exact .inl h
theorem calls_mem:∀(l:List Ins) (out:List Int) (x:Int),x∈calls l out→x∈out∨∃i∈l,(i.op=23∨i.op=29)∧i.a=x
 |[],_,_,h=> .inl h
 |i::l,out,x,h=>by
  rw[calls_cons]at h;rcases calls_mem l _ x h with h|⟨j,h1,h2⟩
  ·rcases call1_mem h with h|h
   ·exact .inl h
   ·exact .inr ⟨i,List.mem_cons_self,h⟩
  ·exact .inr ⟨j,List.mem_cons_of_mem _ h1,h2⟩
theorem getD_mem'{l:List Int}{k:Nat}(h:k<l.length):l.getD k 0∈l:=by
 rw[List.getD_eq_getElem?_getD,List.getElem?_eq_getElem h];exact List.getElem_mem _
theorem reachRun_alike{M M':Mdl}{R:Int→Prop}(hk:∀x,R x→key (uAt M' x).code=key (uAt M x).code)(hR:∀x,R x→∀i∈(uAt M x).code,i.op=23∨i.op=29→R i.a):
  ∀(n k:Nat) (out:List Int),(∀x∈out,R x)→reachRun M' n k out=reachRun M n k out∧∀x∈reachRun M n k out,R x
 |0,_,_,h=>⟨rfl,h⟩
 |n+1,k,out,h=>by
  by_cases hko:k<out.length
  ·have hx:=h _ (getD_mem' hko);rw[reachRun_step hko,reachRun_step hko];have e:calls (M'.units.getD (out.getD k 0).toNat default).code out=calls (M.units.getD (out.getD k 0).toNat default).code out:=by
    rw[←calls_key,←calls_key (M.units.getD (out.getD k 0).toNat default).code];rw[show key (M'.units.getD (out.getD k 0).toNat default).code=key (M.units.getD (out.getD k 0).toNat default).code from hk _ hx]
   rw[e];refine reachRun_alike hk hR n (k+1) _ (fun x hx'=>?_);rcases calls_mem _ _ x hx' with h'|⟨i,i1,i2,i3⟩
   ·exact h x h'
   ·rw[←i3];exact hR _ hx i i1 i2
  ·rw[reachRun_end hko,reachRun_end hko];exact⟨rfl,h⟩
theorem reachRun_fuel{M:Mdl}{N:Nat}(hc:∀k,k<N→∀i∈(M.units.getD k default).code,i.op=23∨i.op=29→0≤i.a∧i.a<(N:Int)):∀(n k:Nat) (out:List Int),Once N out→N<n+k→reachRun M (n+1) k out=reachRun M n k out
 |0,k,out,ho,hn=>by
  have:=ho.len;rw[reachRun_end (by omega),reachRun_end (by omega)]
 |n+1,k,out,ho,hn=>by
  by_cases hko:k<out.length
  ·rw[reachRun_step hko,reachRun_step hko];refine reachRun_fuel hc n (k+1) _ (calls_once _ _ ho (hc _ ?_)) (by omega);have:=ho.ok _ (getD_mem' hko);omega
  ·rw[reachRun_end hko,reachRun_end hko]
theorem reachRun_more{M:Mdl}{N:Nat}(hc:∀k,k<N→∀i∈(M.units.getD k default).code,i.op=23∨i.op=29→0≤i.a∧i.a<(N:Int)){n k:Nat}{out:List Int}(ho:Once N out)(hn:N<n+k):∀d,reachRun M (n+d) k out=reachRun M n k out
 |0=>rfl
 |d+1=>by rw[←Nat.add_assoc,reachRun_fuel hc (n+d) k out ho (by omega)];exact reachRun_more hc ho hn d
def sm:Unt:=⟨4,0,[],0,0,[⟨1,0,1⟩,⟨28,0,0⟩,⟨25,0,0⟩]⟩
theorem sm_run(M:Mdl)(k:Nat):(run M sm k (most sm) (Ver.start sm)).err=0:=rfl
theorem sm_head(M:Mdl):head M sm=0:=rfl
theorem sm_instr(M:Mdl):∀i∈sm.code,instr M sm i=0:=by
 intro i hi;simp only[sm,List.mem_cons,List.not_mem_nil,or_false]at hi;rcases hi with rfl|rfl|rfl<;>rfl
theorem sm_uses{M:Mdl}{op b:Int}{k:Nat}(ho:op=26∨op=27)(h:uAt M k=sm):uses M op b k=false:=by
 have hr:reach M k=[(k:Int)]:=by
  unfold reach;rw[reachRun_step (by simp)];have e:calls (M.units.getD ([(k:Int)].getD 0 0).toNat default).code [(k:Int)]=[(k:Int)]:=by
   show calls (uAt M k).code _=_;rw[h];rfl
  rw[e,reachRun_end (by simp)]
 unfold uses;rw[hr];show((uAt M k).code.any _||false)=false;rw[h];rcases ho with rfl|rfl<;>rfl
structure Left(M M':Mdl):Prop where
 nun:M.units.length≤M'.units.length
 nbx:M.boxes.length≤M'.boxes.length
 boxes:∀k,k<M.boxes.length→M'.boxes.getD k default=M.boxes.getD k default
 bx:∀b∈M'.boxes,plain b.1=true∧1≤b.2∧b.2≤20
 few:M'.boxes.length≤30∧M'.units.length≤30
 units:∀k:Nat,k<M'.units.length→(k<M.units.length∧AlikeU (uAt M k) (uAt M' k)∧key (uAt M' k).code=key (uAt M k).code∧(uAt M' k).code.length≤4000∧∀i∈(uAt M' k).code,i∈(uAt M k).code∨i.op=5∨i.op=7)∨(uAt M' k=sm∧(k<M.units.length→(uAt M k).kind=4))
theorem Left.alike{M M':Mdl}(h:Left M M'):AlikeM M M':=by
 refine⟨h.nun,h.nbx,fun k h0 hk hkind=>?_,h.boxes⟩;have hn:=h.nun;have hc:((k.toNat:Nat):Int)=k:=by omega
 rcases h.units k.toNat (by omega)with⟨-,ha, -⟩|⟨-,h4⟩
 ·rw[hc]at ha;exact⟨ha.kind,ha.locals,ha.params,ha.result,ha.takes⟩
 ·rw[hc]at h4;have:=h4 (by omega);omega
theorem uAt_mem{M:Mdl}{k:Nat}(h:k<M.units.length):uAt M k∈M.units:=by
 show M.units.getD k default∈_;rw[List.getD_eq_getElem?_getD,List.getElem?_eq_getElem h];exact List.getElem_mem _
theorem mem_uAt{M:Mdl}{u:Unt}(h:u∈M.units):∃k:Nat,k<M.units.length∧uAt M k=u:=by
 obtain⟨k,hk,e⟩:=List.getElem_of_mem h;refine⟨k,hk,?_⟩;show M.units.getD k default=u;rw[List.getD_eq_getElem?_getD,List.getElem?_eq_getElem hk];exact e
theorem usersTo_mono{M M':Mdl}{op b:Int}(h:∀k:Nat,k<M'.units.length→(uAt M' k).kind=4→uses M' op b k=true→k<M.units.length∧(uAt M k).kind=4∧uses M op b k=true):∀k,k≤M'.units.length→usersTo M' op b k≤usersTo M op b (min k M.units.length)
 |0,_=>by simp[usersTo]
 |k+1,hk=>by
  have ih:=usersTo_mono h k (by omega);rw[usersTo_succ]
  by_cases hx:(decide ((M'.units.getD k default).kind=4)&&uses M' op b k)=true
  ·rw[if_pos hx];rw[Bool.and_eq_true,decide_eq_true_eq]at hx;obtain⟨h1,h2,h3⟩:=h k (by omega) hx.1 hx.2;rw[show min (k+1) M.units.length=k+1 by omega,usersTo_succ];rw[show min k M.units.length=k by omega]at ih;rw[if_pos (by rw[Bool.and_eq_true,decide_eq_true_eq];exact⟨h2,h3⟩)];omega
  ·rw[if_neg hx];have:usersTo M op b (min k M.units.length)≤usersTo M op b (min (k+1) M.units.length):=by
    by_cases hkn:k<M.units.length
    ·rw[show min (k+1) M.units.length=k+1 by omega,show min k M.units.length=k by omega,usersTo_succ];omega
    ·rw[show min (k+1) M.units.length=min k M.units.length by omega];exact Nat.le_refl _
   omega
theorem users_mono{M M':Mdl}{op b:Int}(hn:M.units.length≤M'.units.length)(h:∀k:Nat,k<M'.units.length→(uAt M' k).kind=4→uses M' op b k=true→k<M.units.length∧(uAt M k).kind=4∧uses M op b k=true):users M' op b≤users M op b:=by
 have:=usersTo_mono h M'.units.length (Nat.le_refl _);rw[show min M'.units.length M.units.length=M.units.length by omega]at this;exact this
section
variable{M M':Mdl}(hF:FormOk M)(hL:Left M M')
include hF
theorem insOk{k:Nat}(hk:k<M.units.length):∀i∈(uAt M k).code,InsOk M (uAt M k) i:=fun i hi=>instr_ok ((hF.units _ (uAt_mem hk)).2 i hi)
theorem callsOk:∀k,k<M.units.length→∀i∈(M.units.getD k default).code,i.op=23∨i.op=29→0≤i.a∧i.a<(M.units.length:Int):=by
 intro k hk i hi ho;have h:=insOk hF hk i hi;rcases ho with ho|ho
 ·obtain⟨h1,h2, -⟩:=unit_eq (h.call ho);exact⟨h1,h2⟩
 ·obtain⟨h1,h2, -⟩:=unit_eq (h.start ho);exact⟨h1,h2⟩
theorem uses_far{op b:Int}(ho:op=26∨op=27)(hb:(M.boxes.length:Int)≤b){k:Nat}(hk:k<M.units.length):uses M op b k=false:=by
 cases h:uses M op b k with
 |false=>rfl
 |true=>
  unfold uses at h;rw[List.any_eq_true]at h;obtain⟨x,x1,x2⟩:=h;rw[List.any_eq_true]at x2;obtain⟨i,i1,i2⟩:=x2;have hx:=(reachRun_once (callsOk hF) (M.units.length+1) 0 [(k:Int)] (Once.one hk)).ok x x1;have:=(insOk hF (k:=x.toNat) (by omega) i i1).box;rw[Bool.and_eq_true,decide_eq_true_eq,decide_eq_true_eq]at i2;have:=this (by omega);omega
include hL
theorem uses_left{op b:Int}(ho:op=26∨op=27){k:Nat}(hk:k<M.units.length)(hkey:key (uAt M' k).code=key (uAt M k).code):uses M' op b k=uses M op b k:=by
 have hn:=hL.nun
 let R:Int→Prop:=fun x=>0≤x∧x<(M.units.length:Int)∧key (uAt M' x).code=key (uAt M x).code
 have hR:∀x,R x→∀i∈(uAt M x).code,i.op=23∨i.op=29→R i.a:=by
  rintro x ⟨h1,h2, -⟩ i hi hio;have hc:=callsOk hF x.toNat (by omega) i hi hio;have hio':=insOk hF (k:=x.toNat) (by omega) i hi;refine⟨hc.1,hc.2,?_⟩;have hkind:(uAt M i.a).kind=2∨(uAt M i.a).kind=3:=by
   rcases hio with hio|hio
   ·exact .inl (unit_eq (hio'.call hio)).2.2
   ·exact .inr (unit_eq (hio'.start hio)).2.2
  have hca:((i.a.toNat:Nat):Int)=i.a:=by omega
  rcases hL.units i.a.toNat (by omega)with⟨-, -,hk, -, -⟩|⟨-,h4⟩
  ·rw[hca]at hk;exact hk
  ·rw[hca]at h4;have:=h4 (by omega);omega
 obtain⟨e1,e2⟩:=reachRun_alike (fun x hx=>hx.2.2) hR (M.units.length+1) 0 [(k:Int)] (fun x hx=>by
  simp at hx;subst hx;exact⟨by omega,by omega,hkey⟩)
 have e3:=reachRun_alike (fun x hx=>hx.2.2) hR (M'.units.length+1) 0 [(k:Int)] (fun x hx=>by
  simp at hx;subst hx;exact⟨by omega,by omega,hkey⟩)
 have e4:reach M' k=reach M k:=by
  unfold reach;rw[e3.1,show M'.units.length+1=(M.units.length+1)+(M'.units.length-M.units.length) by omega];exact reachRun_more (callsOk hF) (Once.one hk) (by omega) _
 unfold uses;rw[e4];have:∀l:List Int,(∀x∈l,R x)→(l.any fun x=>(M'.units.getD x.toNat default).code.any fun i=>decide (i.op=op)&&decide (i.a=b))=(l.any fun x=>(M.units.getD x.toNat default).code.any fun i=>decide (i.op=op)&&decide (i.a=b)):=by
  intro l hl
  induction l with
  |nil=>rfl
  |cons x l ih=>
   rw[List.any_cons,List.any_cons,ih (fun y hy=>hl y (List.mem_cons_of_mem _ hy))];congr 1;have hx:=(hl x List.mem_cons_self).2.2;rw[←any_key ho,←any_key ho (M.units.getD x.toNat default).code];rw[show key (M'.units.getD x.toNat default).code=key (M.units.getD x.toNat default).code from hx]
 exact this _ e2
theorem users_left{op b:Int}(ho:op=26∨op=27):users M' op b≤users M op b:=by
 refine users_mono hL.nun (fun k hk h4 hu=>?_);rcases hL.units k hk with⟨h1,h2,h3, -⟩|⟨h1, -⟩
 ·exact⟨h1,by rw[←h2.kind];exact h4,by rw[←uses_left hF hL ho h1 h3];exact hu⟩
 ·rw[sm_uses ho h1]at hu;cases hu
end
theorem Right.left{M M':Mdl}(hR:Right M)(hG:∀k,k<M.units.length→Good M (M.units.getD k default))(hL:Left M M'):Right M':=by
 have hM:=hL.alike;have hF:=hR.form;refine⟨⟨hL.few.1,hL.few.2,hL.bx,fun u hu=>?_,?_⟩,fun k hk=>?_,fun b hb=>?_⟩
 ·obtain⟨k,hk,rfl⟩:=mem_uAt hu;rcases hL.units k hk with⟨h1,h2, -,h4,h5⟩|⟨h1, -⟩
  ·obtain⟨g1,g2⟩:=hF.units _ (uAt_mem h1);refine⟨head_alike hM h2 g1 h4,fun i hi=>?_⟩;rcases h5 i hi with h|h
   ·exact instr_alike hM h2 (g2 i h)
   ·unfold instr;rw[if_neg (by omega),if_neg (by omega),if_neg (by omega),if_neg (by omega),if_neg (by omega),if_neg (by omega),if_neg (by omega)]
  ·rw[h1];exact⟨sm_head _,sm_instr _⟩
 ·obtain⟨u,u1,u2⟩:=hF.task;obtain⟨k,hk,rfl⟩:=mem_uAt u1;have hn:=hL.nun;refine⟨uAt M' k,uAt_mem (by omega),?_⟩;rcases hL.units k (by omega)with⟨h1,h2, -,h4, -⟩|⟨h1, -⟩
  ·rw[h2.kind];exact u2
  ·rw[h1];rfl
 ·rcases hL.units k hk with⟨h1,h2, -,h4, -⟩|⟨h1, -⟩
  ·obtain⟨g1,g2⟩:=hF.units _ (uAt_mem h1);have hh:(M.units.getD k default).params.toNat≤(M.units.getD k default).locals.length∧1≤(M.units.getD k default).code.length:=by
    have g1':head M (M.units.getD k default)=0:=g1;unfold head at g1';generalize M.units.getD k default=u at *
    by_cases e1:u.kind≠2∧u.kind≠3∧u.kind≠4
    ·rw[if_pos e1]at g1';cases g1'
    rw[if_neg e1]at g1'
    by_cases e2:200<u.locals.length∨u.params<0∨6<u.params∨(u.locals.length:Int)<u.params∨(u.kind=4∧0<u.params)
    ·rw[if_pos e2]at g1';cases g1'
    rw[if_neg e2]at g1'
    by_cases e3:u.code.length<1∨4000<u.code.length
    ·rw[if_pos e3]at g1';cases g1'
    omega
   obtain⟨τ,hτ, -⟩:=cert_of_code (hG k h1) hh.1 hh.2 (hR.code k h1);exact code_of_cert (Cert.alike hM h2 g2 hτ)
  ·have:M'.units.getD k default=sm:=h1;unfold Ver.code;rw[this];exact sm_run _ _
 ·have l1:=users_left hF hL (b:=b) (.inl (rfl:(26:Int)=26));have l2:=users_left hF hL (b:=b) (.inr (rfl:(27:Int)=27))
  by_cases hb':b<M.boxes.length
  ·have:=hR.owned b hb';omega
  ·have z:∀op:Int,op=26∨op=27→users M op b=0:=fun op ho=>by
    unfold users;rw[List.length_eq_zero_iff,List.filter_eq_nil_iff];intro k hk;rw[uses_far hF ho (by omega) (List.mem_range.1 hk)];simp
   rw[z 26 (.inl rfl)]at l1;rw[z 27 (.inr rfl)]at l2;omega
def longer(u:Unt):Unt:={u with code:=u.code ++[⟨7,0,0⟩,⟨5,0,0⟩]}
theorem AlikeU.refl(u:Unt):AlikeU u u:=⟨rfl,rfl,rfl,rfl,rfl,Nat.le_refl _,fun _ _ _=>rfl⟩
end Go.Proofs.Ytgnhfinabhimpaa.Ver


namespace Go.Proofs.Ytgnhfinabhimpaa.Opt
open ImgM Ver
def isJ(i:Ins):Bool:=decide (i.op=21)||decide (i.op=22)
def tgt(l:List Ins)(p:Int):Bool:=l.any fun i=>isJ i&&decide (i.a=p)
def cval(i:Ins):Int:=if i.op=1 then i.n else if i.op=2 then i.a else 0
def isC(i:Ins):Bool:=decide (i.op=1)||decide (i.op=2)
def known(v:Int)(t:Bool):List Ins:=if t then [⟨2,v,0⟩]else [⟨1,0,v⟩]
def yes(b:Bool):Int:=if b then 1 else 0
def two2(op a b:Int):Int:=
 if op=8 then IntKind.i64.wrap (a+b)
 else if op=9 then IntKind.i64.wrap (a-b)
 else if op=10 then IntKind.i64.wrap (a*b)
 else if op=11∨op=12 then
  if a= -9223372036854775808∧b= -1 then(if op=11 then a else 0)
  else if op=11 then IntKind.i64.wrap (a.tdiv b)else a.tmod b
 else if op=13 then yes (decide (a=b))
 else if op=14 then yes (!decide (a=b))
 else if op=15 then yes (decide (a<b))
 else if op=16 then yes (decide (a≤b))
 else if op=17 then yes (decide (b<a))
 else if op=18 then yes (decide (b≤a))
 else if op=19 then bits .and .i64 a b
 else bits .or .i64 a b
def three(a b c:Ins):Option (List Ins):=
 if isC a=false∨isC b=false∨a.op≠b.op∨c.op<8∨20<c.op∨(cval b=0∧(c.op=11∨c.op=12))then none
 else if((c.op=19∨c.op=20)↔¬a.op=2)∧c.op≠13∧c.op≠14 then none
 else some (known (two2 c.op (cval a) (cval b)) (decide (12<c.op)))
def pair(a b:Ins):Option (List Ins):=
 if b.op=5∧(isC a=true∨a.op=3)then some []
 else if isC a=false then none
 else if b.op=6∧a.op=1 then some (known (IntKind.i64.wrap (-(cval a))) false)
 else if a.op=1 then none
 else if b.op=7 then some (known (IntKind.i64.wrap (1-cval a)) true)
 else if b.op=22∧cval a≠0 then some []
 else if b.op=22 then some [⟨21,b.a,0⟩]
 else none
def at_(l:List Ins)(k:Nat):Ins:=l.getD k default
def free(l:List Ins)(p n:Nat):Bool:=decide (p+n<l.length)&&(List.range n).all fun k=>decide (k=0)|| !tgt l ((p+k:Nat):Int)
def shorter(l:List Ins)(p:Nat):List Ins×Nat:=
 match (if free l p 3 then three (at_ l p) (at_ l (p+1)) (at_ l (p+2))else none)with
 |some r=>(r,3)
 |none=>match (if free l p 2 then pair (at_ l p) (at_ l (p+1))else none)with
  |some r=>(r,2)
  |none=>if free l p 1=true∧(at_ l p).op=21∧(at_ l p).a=(p:Int)+1 then([],1)else([],0)
structure PS where
 p:Nat
 out:List Ins
 wh:List Int
 did:Bool
def setAll(wh:List Int)(p:Nat)(v:Int):Nat→List Int
 |0=>wh
 |n+1=>(setAll wh p v n).set (p+n+1) v
def pstep(l:List Ins)(s:PS):PS:=
 if(shorter l s.p).2=0 then⟨s.p+1,s.out ++[at_ l s.p],s.wh.set s.p (s.out.length:Int),s.did⟩
 else⟨s.p+(shorter l s.p).2,s.out ++(shorter l s.p).1,setAll (s.wh.set s.p (s.out.length:Int)) s.p ((s.out ++(shorter l s.p).1).length:Int) ((shorter l s.p).2-1),true⟩
def prun(l:List Ins):Nat→PS→PS
 |0,s=>s
 |n+1,s=>if s.p<l.length then prun l n (pstep l s)else s
def reloc(wh:List Int)(i:Ins):Ins:=if isJ i then{i with a:=wh.getD i.a.toNat 0}else i
def pass0(l:List Ins):PS:=prun l l.length ⟨0,[],List.replicate (l.length+1) 0,false⟩
def pass(l:List Ins):List Ins×Bool:=((pass0 l).out.map (reloc (pass0 l).wh),(pass0 l).did)
def codeN:Nat→List Ins→List Ins
 |0,l=>l
 |n+1,l=>if(pass l).2 then codeN n (pass l).1 else(pass l).1
def code(l:List Ins):List Ins:=codeN (l.length+1) l
def unit(u:Unt):Unt:={u with code:=code u.code}
def mdl(M:Mdl):Mdl:=⟨M.boxes,M.units.map unit⟩
end Go.Proofs.Ytgnhfinabhimpaa.Opt


namespace Go.Proofs.Ytgnhfinabhimpaa.Vm
open ImgM Ver Opt
structure Env(ν:Type) where
 full:ν→Nat→Bool
 empty:ν→Nat→Bool
 put:ν→Nat→Int→ν
 take:ν→Nat→Int×ν
 tell:ν→Int×Int×Int→ν
structure Fr where
 unit:Nat
 pc:Nat
 base:Nat
deriving Inhabited,DecidableEq
structure Co where
 st:Nat
 up:Option Nat
 fr:List Fr
 ws:List Int
deriving Inhabited,DecidableEq
structure Tk where
 cs:List Co
 now:Nat
 st:Int
 bx:Int
 tr:Int
 out:List Int
deriving Inhabited,DecidableEq
def unt(M:Mdl)(k:Nat):Unt:=M.units.getD k default
def cur(t:Tk):Co:=t.cs.getD t.now default
def setC(t:Tk)(k:Nat)(c:Co):Tk:={t with cs:=t.cs.set k c}
def setCur(t:Tk)(c:Co):Tk:=setC t t.now c
def topF(c:Co):Fr:=c.fr.getD (c.fr.length-1) default
def setTop(c:Co)(f:Fr):Co:={c with fr:=c.fr.set (c.fr.length-1) f}
def insT(M:Mdl)(t:Tk):Ins:=(unt M (topF (cur t)).unit).code.getD (topF (cur t)).pc default
def begin(M:Mdl)(u:Nat)(a:List Int):Co:=⟨0,none,[⟨u,0,0⟩],(List.range (unt M u).locals.length).map fun i=>a.getD i 0⟩
def new(M:Mdl)(u:Nat):Tk:=⟨[{begin M u []with st:=2}],0,1,0,0,[]⟩
section
variable{ν:Type}(V:Env ν)(M:Mdl)
def trap(n:Int)(s:Tk×ν):Tk×ν:=if s.1.st=5 then s else({s.1 with st:=5,tr:=n},V.tell s.2 (5,0,n))
def push(v:Int)(s:Tk×ν):Tk×ν:=
 if(cur s.1).ws.length=400 then trap V 4 s else(setCur s.1 {cur s.1 with ws:=(cur s.1).ws ++[v]},s.2)
def last(s:Tk):Int:=(cur s).ws.getD ((cur s).ws.length-1) 0
def drop(n:Nat)(t:Tk):Tk:=setCur t {cur t with ws:=(cur t).ws.take ((cur t).ws.length-n)}
def waits(i:Ins)(s:Tk×ν):Tk×ν:=
 if i.op=26∧V.full s.2 i.a.toNat=true then({s.1 with st:=2,bx:=i.a},s.2)
 else if i.op=27∧V.empty s.2 i.a.toNat=true then({s.1 with st:=3,bx:=i.a},s.2)
 else({s.1 with st:=1,bx:=0},s.2)
def look(s:Tk×ν):Tk×ν:=if s.1.st≤3 then waits V (insT M s.1) s else s
def setPc(p:Nat)(t:Tk):Tk:=setCur t (setTop (cur t) {topF (cur t)with pc:=p})
def pushN(V:Env ν):Nat→Tk×ν→Tk×ν
 |0,s=>s
 |n+1,s=>pushN V n (push V 0 s)
def callU(k:Nat)(s:Tk×ν):Tk×ν:=
 if(cur s.1).fr.length=40 then trap V 4 s
 else pushN V ((unt M k).locals.length-(unt M k).params.toNat) (setCur s.1 {cur s.1 with fr:=(cur s.1).fr ++[⟨k,0,(cur s.1).ws.length-(unt M k).params.toNat⟩]},s.2)
def ret(s:Tk×ν):Tk×ν:=
 push V (last s.1) (setCur s.1 {cur s.1 with fr:=(cur s.1).fr.take ((cur s.1).fr.length-1),ws:=((cur s.1).ws.take ((cur s.1).ws.length-1)).take (topF (cur s.1)).base},s.2)
def endU(s:Tk×ν):Tk×ν:=
 match (cur s.1).up with
 |none=>({setCur s.1 {cur s.1 with st:=3}with st:=4},V.tell s.2 (4,0,0))
 |some j=>push V 0 ({setCur s.1 {cur s.1 with st:=3,up:=none}with now:=j},s.2)
def startU(k:Nat)(s:Tk×ν):Tk×ν:=
 let n:=(unt M k).params.toNat
 let a:=(cur s.1).ws.drop ((cur s.1).ws.length-n)
 let t:=drop n s.1
 if 30<t.cs.length then trap V 5 (t,s.2)
 else push V (t.cs.length:Int) ({t with cs:=t.cs ++[begin M k a]},V.tell s.2 (6,0,(k:Int)))
def resumeU(s:Tk×ν):Tk×ν:=
 let v:=last s.1
 let t:=drop 1 s.1
 let k:=(last t).toNat
 let t:=drop 1 t
 let c:=t.cs.getD k default
 if c.st=3 then trap V 2 (t,s.2)
 else if c.st=2 then trap V 3 (t,s.2)
 else
  let t':Tk:={setC t k {c with st:=2,up:=some t.now}with now:=k}
  if c.st=0 then(t',s.2)else push V v (t',s.2)
def yieldU(s:Tk×ν):Tk×ν:=
 let v:=last s.1
 let t:=drop 1 s.1
 push V v ({setCur t {cur t with st:=1,up:=none}with now:=(cur t).up.getD 0},s.2)
def aliveU(s:Tk×ν):Tk×ν:=
 let t:=drop 1 s.1
 push V (yes (!decide ((t.cs.getD (last s.1).toNat default).st=3))) (t,s.2)
def exec(i:Ins)(s:Tk×ν):Tk×ν:=
 let d:=drop 1 s.1
 if i.op=1 then push V i.n s
 else if i.op=2 then push V i.a s
 else if i.op=3 then push V ((cur s.1).ws.getD ((topF (cur s.1)).base+i.a.toNat) 0) s
 else if i.op=4 then(setCur d {cur d with ws:=(cur d).ws.set ((topF (cur d)).base+i.a.toNat) (last s.1)},s.2)
 else if i.op=5 then(d,s.2)
 else if i.op=6 then push V (IntKind.i64.wrap (-(last s.1))) (d,s.2)
 else if i.op=7 then push V (IntKind.i64.wrap (1-last s.1)) (d,s.2)
 else if 8≤i.op∧i.op≤20 then
  if(i.op=11∨i.op=12)∧last s.1=0 then trap V 1 (drop 1 d,s.2)
  else push V (two2 i.op (last d) (last s.1)) (drop 1 d,s.2)
 else if i.op=21 then(setPc i.a.toNat s.1,s.2)
 else if i.op=22 then(if last s.1=0 then setPc i.a.toNat d else d,s.2)
 else if i.op=26 then(d,V.tell (V.put s.2 i.a.toNat (last s.1)) (2,i.a,last s.1))
 else if i.op=27 then push V (V.take s.2 i.a.toNat).1 (s.1,V.tell (V.take s.2 i.a.toNat).2 (3,i.a,(V.take s.2 i.a.toNat).1))
 else if i.op=28 then({d with out:=d.out ++[last s.1]},V.tell s.2 (1,0,last s.1))
 else if i.op=23 then callU V M i.a.toNat s
 else if i.op=24 then ret V s
 else if i.op=25 then endU V s
 else if i.op=29 then startU V M i.a.toNat s
 else if i.op=30 then resumeU V s
 else if i.op=31 then yieldU V s
 else if i.op=32 then aliveU V s
 else s
def step(s:Tk×ν):Bool×(Tk×ν):=
 let s1:=look V M s
 if s1.1.st≠1 then(false,s1)
 else(true,look V M (exec V M (insT M s1.1) (setPc ((topF (cur s1.1)).pc+1) s1.1,s1.2)))
end
end Go.Proofs.Ytgnhfinabhimpaa.Vm


namespace Go.Proofs.Ytgnhfinabhimpaa.Opt
open ImgM Ver
def nx(l:List Ins)(p:Nat):Nat:=p+(if(shorter l p).2=0 then 1 else(shorter l p).2)
def em(l:List Ins)(p:Nat):List Ins:=if(shorter l p).2=0 then [at_ l p]else(shorter l p).1
def pcs(l:List Ins):Nat→Nat→List Nat
 |0,_=>[]
 |n+1,p=>if p<l.length then p::pcs l n (nx l p)else []
theorem free_lt{l:List Ins}{p n:Nat}(h:free l p n=true):p+n<l.length:=by
 unfold free at h;rw[Bool.and_eq_true,decide_eq_true_eq]at h;exact h.1
theorem free_not{l:List Ins}{p n k:Nat}(h:free l p n=true)(h0:0<k)(hk:k<n):tgt l ((p+k:Nat):Int)=false:=by
 unfold free at h;rw[Bool.and_eq_true,List.all_eq_true]at h;have:=h.2 k (List.mem_range.2 hk);rw[Bool.or_eq_true,decide_eq_true_eq,Bool.not_eq_true']at this;rcases this with h|h
 ·omega
 ·exact h
theorem shorter_cases{l:List Ins}{p:Nat}(h:(shorter l p).2≠0):
  (∃r,shorter l p=(r,3)∧free l p 3=true∧three (at_ l p) (at_ l (p+1)) (at_ l (p+2))=some r)∨
  (∃r,shorter l p=(r,2)∧free l p 2=true∧pair (at_ l p) (at_ l (p+1))=some r)∨
  (shorter l p=([],1)∧free l p 1=true∧(at_ l p).op=21∧(at_ l p).a=(p:Int)+1):=by
 unfold shorter at h⊢
 split
 ·rename_i r hr
  left
  by_cases hf:free l p 3=true
  ·rw[if_pos hf]at hr;exact⟨r,rfl,hf,hr⟩
  ·rw[if_neg hf]at hr;cases hr
 ·rename_i h3
  right
  rw[h3]at h;simp only at h
  split
  ·rename_i r hr
   left
   by_cases hf:free l p 2=true
   ·rw[if_pos hf]at hr;exact⟨r,rfl,hf,hr⟩
   ·rw[if_neg hf]at hr;cases hr
  ·rename_i h2
   right
   rw[h2]at h;simp only at h
   by_cases hf:free l p 1=true∧(at_ l p).op=21∧(at_ l p).a=(p:Int)+1
   ·rw[if_pos hf];exact⟨rfl,hf⟩
   ·rw[if_neg hf]at h;exact absurd rfl h
theorem known_len(v:Int)(t:Bool):(known v t).length=1:=by unfold known;split<;>rfl
theorem three_len{a b c:Ins}{r:List Ins}(h:three a b c=some r):r.length=1:=by
 unfold three at h
 split at h
 ·cases h
 ·split at h
  ·cases h
  ·cases h;exact known_len _ _
theorem pair_len{a b:Ins}{r:List Ins}(h:pair a b=some r):r.length≤1:=by
 unfold pair at h
 repeat' split at h
 all_goals cases h
 all_goals first|exact Nat.le_of_eq (known_len _ _)|simp
theorem shorter_len{l:List Ins}{p:Nat}(h:(shorter l p).2≠0):(shorter l p).1.length≤1∧(shorter l p).1.length<(shorter l p).2∧p+(shorter l p).2<l.length:=by
 rcases shorter_cases h with⟨r,h1,h2,h3⟩|⟨r,h1,h2,h3⟩|⟨h1,h2,h3⟩
 ·have:=three_len h3;have:=free_lt h2;rw[h1];exact⟨by simp only;omega,by simp only;omega,by simp only;omega⟩
 ·have:=pair_len h3;have:=free_lt h2;rw[h1];exact⟨by simp only;omega,by simp only;omega,by simp only;omega⟩
 ·have:=free_lt h2;rw[h1];exact⟨by simp,by simp,by simp only;omega⟩
theorem shorter_not{l:List Ins}{p k:Nat}(h:(shorter l p).2≠0)(h0:0<k)(hk:k<(shorter l p).2):tgt l ((p+k:Nat):Int)=false:=by
 rcases shorter_cases h with⟨r,h1,h2,h3⟩|⟨r,h1,h2,h3⟩|⟨h1,h2,h3⟩<;>(rw[h1]at hk;exact free_not h2 h0 hk)
theorem em_len(l:List Ins)(p:Nat):(em l p).length≤1:=by
 unfold em
 split
 ·simp
 ·rename_i h;exact(shorter_len h).1
theorem nx_gt(l:List Ins)(p:Nat):p<nx l p:=by unfold nx;split<;>omega
theorem nx_le{l:List Ins}{p:Nat}(h:p<l.length):nx l p≤l.length:=by
 unfold nx
 split
 ·omega
 ·rename_i h';have:=(shorter_len h').2.2;omega
theorem em_last{l:List Ins}{p:Nat}(h:nx l p=l.length):em l p=[at_ l p]:=by
 unfold em
 split
 ·rfl
 ·rename_i h'
  unfold nx at h;rw[if_neg h']at h;have:=(shorter_len h').2.2;omega
theorem setAll_len(wh:List Int)(p:Nat)(v:Int):∀n,(setAll wh p v n).length=wh.length
 |0=>rfl
 |n+1=>by unfold setAll;rw[List.length_set,setAll_len wh p v n]
theorem getD_setI{l:List Int}{k j:Nat}{v:Int}(hk:k<l.length):(l.set k v).getD j 0=if k=j then v else l.getD j 0:=by
 simp only[List.getD_eq_getElem?_getD,List.getElem?_set]
 by_cases h:k=j
 ·subst h;simp[hk]
 ·simp[h]
theorem getD_setI'{l:List Int}{k j:Nat}{v:Int}(hk:k≠j):(l.set k v).getD j 0=l.getD j 0:=by
 simp only[List.getD_eq_getElem?_getD,List.getElem?_set];rw[if_neg hk]
theorem setAll_getD{wh:List Int}{p:Nat}{v:Int}{q:Nat}(hq:q≤p):∀n,(setAll wh p v n).getD q 0=wh.getD q 0
 |0=>rfl
 |n+1=>by unfold setAll;rw[getD_setI' (by omega),setAll_getD hq n]
theorem pstep_p(l:List Ins)(s:PS):(pstep l s).p=nx l s.p:=by unfold pstep nx;split<;>rfl
theorem pstep_out(l:List Ins)(s:PS):(pstep l s).out=s.out ++em l s.p:=by unfold pstep em;split<;>rfl
theorem pstep_did(l:List Ins)(s:PS):(pstep l s).did=(s.did||decide ((shorter l s.p).2≠0)):=by
 unfold pstep
 split
 ·rename_i h;simp[h]
 ·rename_i h;simp[h]
theorem pstep_len(l:List Ins)(s:PS):(pstep l s).wh.length=s.wh.length:=by
 unfold pstep
 split
 ·simp
 ·simp[setAll_len]
theorem pstep_wh{l:List Ins}{s:PS}(hw:s.wh.length=l.length+1)(hp:s.p<l.length){q:Nat}(hq:q≤s.p):(pstep l s).wh.getD q 0=if s.p=q then(s.out.length:Int)else s.wh.getD q 0:=by
 unfold pstep
 split
 ·exact getD_setI (by omega)
 ·simp only;rw[setAll_getD hq,getD_setI (by omega)]
theorem pcs_ge{l:List Ins}:∀(n p:Nat),∀q∈pcs l n p,p≤q∧q<l.length
 |0,p,q,h=>by cases h
 |n+1,p,q,h=>by
  unfold pcs at h
  split at h
  ·rename_i hp
   rcases List.mem_cons.1 h with rfl|h
   ·exact⟨Nat.le_refl _,hp⟩
   ·have:=pcs_ge n _ q h;have:=nx_gt l p;omega
  ·cases h
structure Ran(l:List Ins)(n:Nat)(s r:PS):Prop where
 out:r.out=s.out ++(pcs l n s.p).flatMap (em l)
 old:∀q,q<s.p→r.wh.getD q 0=s.wh.getD q 0
 wh:∀A q C,pcs l n s.p=A ++q::C→r.wh.getD q 0=((s.out.length+(A.flatMap (em l)).length:Nat):Int)
 did:r.did=(s.did||(pcs l n s.p).any fun q=>decide ((shorter l q).2≠0))
 len:r.wh.length=l.length+1
theorem prun_ran{l:List Ins}:∀(n:Nat) (s:PS),s.wh.length=l.length+1→Ran l n s (prun l n s)
 |0,s,hw=>⟨by simp[prun,pcs],fun q _=>rfl,fun A q C h=>by simp[pcs]at h,by simp[prun,pcs],hw⟩
 |n+1,s,hw=>by
  by_cases hp:s.p<l.length
  ·have ih:=prun_ran n (pstep l s) (by rw[pstep_len,hw]);rw[show prun l (n+1) s=prun l n (pstep l s) by(conv=>lhs;unfold prun);rw[if_pos hp]];have hpc:pcs l (n+1) s.p=s.p::pcs l n (nx l s.p):=by(conv=>lhs;unfold pcs);rw[if_pos hp]
   have hgt:=nx_gt l s.p;refine⟨?_,fun q hq=>?_,fun A q C h=>?_,?_,ih.len⟩
   ·rw[ih.out,pstep_out,pstep_p,hpc,List.flatMap_cons,List.append_assoc]
   ·rw[ih.old q (by rw[pstep_p];omega),pstep_wh hw hp (by omega),if_neg (by omega)]
   ·rw[hpc]at h
    cases A with
    |nil=>
     simp only[List.nil_append,List.cons.injEq]at h;obtain⟨rfl, -⟩:=h;rw[ih.old _ (by rw[pstep_p];omega),pstep_wh hw hp (Nat.le_refl _),if_pos rfl];simp
    |cons a A=>
     simp only[List.cons_append,List.cons.injEq]at h;obtain⟨rfl,h⟩:=h;rw[ih.wh A q C (by rw[pstep_p];exact h),pstep_out,List.flatMap_cons,List.length_append,List.length_append];congr 1;omega
   ·rw[ih.did,pstep_did,pstep_p,hpc,List.any_cons,Bool.or_assoc]
  ·rw[show prun l (n+1) s=s by(conv=>lhs;unfold prun);rw[if_neg hp]];have hpc:pcs l (n+1) s.p=[]:=by unfold pcs;rw[if_neg hp]
   exact⟨by simp[hpc],fun q _=>rfl,fun A q C h=>by simp[hpc]at h,by simp[hpc],hw⟩
def bs(l:List Ins):List Nat:=pcs l l.length 0
theorem pass0_ran(l:List Ins):Ran l l.length ⟨0,[],List.replicate (l.length+1) 0,false⟩ (pass0 l):=prun_ran _ _ (by simp)
theorem pass0_out(l:List Ins):(pass0 l).out=(bs l).flatMap (em l):=(pass0_ran l).out
theorem pass0_wh{l:List Ins}{A:List Nat}{q:Nat}{C:List Nat}(h:bs l=A ++q::C):(pass0 l).wh.getD q 0=((A.flatMap (em l)).length:Int):=by
 have:=(pass0_ran l).wh A q C h;simpa using this
theorem pass0_did(l:List Ins):(pass0 l).did=(bs l).any fun q=>decide ((shorter l q).2≠0):=by
 have:=(pass0_ran l).did;rw[this];exact Bool.false_or _
theorem pcs_next{l:List Ins}:∀(n p:Nat) (A:List Nat) (q:Nat) (C:List Nat),l.length≤n+p→pcs l n p=A ++q::C→q<l.length∧((nx l q=l.length∧C=[])∨(nx l q<l.length∧∃C',C=nx l q::C'))
 |0,p,A,q,C,_,h=>by simp[pcs]at h
 |n+1,p,A,q,C,hn,h=>by
  unfold pcs at h
  split at h
  ·rename_i hp
   have hgt:=nx_gt l p
   cases A with
   |nil=>
    simp only[List.nil_append,List.cons.injEq]at h;obtain⟨rfl,h⟩:=h;refine⟨hp,?_⟩;have hle:=nx_le hp
    by_cases hl:nx l p<l.length
    ·right
     refine⟨hl,?_⟩
     cases n with
     |zero=>omega
     |succ n=>
      unfold pcs at h;rw[if_pos hl]at h;exact⟨_,h.symm⟩
    ·left
     refine⟨by omega,?_⟩;rw[←h]
     cases n with
     |zero=>rfl
     |succ n=>unfold pcs;rw[if_neg hl]
   |cons a A=>
    simp only[List.cons_append,List.cons.injEq]at h;exact pcs_next n (nx l p) A q C (by omega) h.2
  ·simp at h
theorem bs_next{l:List Ins}{A:List Nat}{q:Nat}{C:List Nat}(h:bs l=A ++q::C):q<l.length∧((nx l q=l.length∧C=[])∨(nx l q<l.length∧∃C',C=nx l q::C')):=pcs_next l.length 0 A q C (by omega) h
theorem bs_zero{l:List Ins}(h:0<l.length):∃C,bs l=0::C:=by
 unfold bs;obtain⟨n,hn⟩:∃n,l.length=n+1:=⟨l.length-1,by omega⟩;rw[hn];unfold pcs;rw[if_pos (by omega)];exact⟨_,rfl⟩
theorem bs_cover{l:List Ins}(h:0<l.length):∀a,a<l.length→∃A q C,bs l=A ++q::C∧q≤a∧a<nx l q
 |0,_=>by
  obtain⟨C,hC⟩:=bs_zero h;exact⟨[],0,C,hC,Nat.le_refl _,nx_gt l 0⟩
 |a+1,ha=>by
  obtain⟨A,q,C,h1,h2,h3⟩:=bs_cover h a (by omega)
  by_cases hx:a+1<nx l q
  ·exact⟨A,q,C,h1,by omega,hx⟩
  ·obtain⟨-,hn⟩:=bs_next h1;have he:nx l q=a+1:=by omega
   rcases hn with⟨hn, -⟩|⟨hn,C',rfl⟩
   ·omega
   ·rw[he]at h1;exact⟨A ++[q],a+1,C',by rw[h1];simp,Nat.le_refl _,nx_gt _ _⟩
theorem bs_tgt{l:List Ins}{a:Nat}(ha:a<l.length)(ht:tgt l (a:Int)=true):∃A C,bs l=A ++a::C:=by
 obtain⟨A,q,C,h1,h2,h3⟩:=bs_cover (by omega) a ha
 by_cases he:q=a
 ·subst he;exact⟨A,C,h1⟩
 ·exfalso
  unfold nx at h3
  by_cases hs:(shorter l q).2=0
  ·rw[if_pos hs]at h3;omega
  ·rw[if_neg hs]at h3;have:=shorter_not hs (k:=a-q) (by omega) (by omega);rw[show q+(a-q)=a by omega,ht]at this
   cases this
def srcs(l:List Ins)(b:List Nat):List Nat:=b.flatMap fun q=>if em l q=[]then []else [q]
theorem srcs_len(l:List Ins)(b:List Nat):(srcs l b).length=(b.flatMap (em l)).length:=by
 unfold srcs
 induction b with
 |nil=>rfl
 |cons q r ih=>
  rw[List.flatMap_cons,List.flatMap_cons,List.length_append,List.length_append,ih];have:=em_len l q;congr 1
  by_cases h:em l q=[]
  ·rw[if_pos h,h];rfl
  ·rw[if_neg h];have:(em l q).length≠0:=fun h'=>h (List.eq_nil_of_length_eq_zero h')
   simp;omega
theorem srcs_app(l:List Ins)(a b:List Nat):srcs l (a ++b)=srcs l a ++srcs l b:=by unfold srcs;rw[List.flatMap_append]
theorem src_at{l:List Ins}:∀(b:List Nat) (j q:Nat),(srcs l b)[j]?=some q→∃A C i,b=A ++q::C∧em l q=[i]∧j=(A.flatMap (em l)).length∧(b.flatMap (em l))[j]?=some i
 |[],j,q,h=>by simp[srcs]at h
 |x::r,j,q,h=>by
  have e:srcs l (x::r)=(if em l x=[]then []else [x]) ++srcs l r:=by unfold srcs;rw[List.flatMap_cons]
  rw[e]at h
  by_cases hx:em l x=[]
  ·rw[if_pos hx,List.nil_append]at h;obtain⟨A,C,i,h1,h2,h3,h4⟩:=src_at r j q h;exact⟨x::A,C,i,by rw[h1];rfl,h2,by rw[List.flatMap_cons,hx];simpa using h3,by rw[List.flatMap_cons,hx];simpa using h4⟩
  ·rw[if_neg hx]at h;obtain⟨i,hi⟩:∃i,em l x=[i]:=by
    have:=em_len l x
    match hm:em l x with
    |[]=>exact absurd hm hx
    |[i]=>exact⟨i,rfl⟩
    |_::_::_=>rw[hm]at this;simp at this
   cases j with
   |zero=>
    simp at h;subst h;exact⟨[],r,i,rfl,hi,rfl,by rw[List.flatMap_cons,hi];rfl⟩
   |succ j=>
    have h':(srcs l r)[j]?=some q:=by simpa using h
    obtain⟨A,C,i',h1,h2,h3,h4⟩:=src_at r j q h';refine⟨x::A,C,i',by rw[h1];rfl,h2,?_,?_⟩
    ·rw[List.flatMap_cons,hi];simp[h3]
    ·rw[List.flatMap_cons,hi];first|exact h4|simpa using h4
theorem pcs_len{l:List Ins}:∀(n p:Nat),p≤l.length→p+((pcs l n p).flatMap (em l)).length+(if(pcs l n p).any (fun q=>decide ((shorter l q).2≠0))then 1 else 0)≤l.length
 |0,p,h=>by simp[pcs];exact h
 |n+1,p,h=>by
  unfold pcs
  split
  ·rename_i hp
   have ih:=pcs_len n (nx l p) (nx_le hp);rw[List.flatMap_cons,List.length_append,List.any_cons]
   by_cases hs:(shorter l p).2=0
   ·have e1:nx l p=p+1:=by unfold nx;rw[if_pos hs]
    have e2:(em l p).length=1:=by unfold em;rw[if_pos hs];rfl
    simp only[hs,ne_eq,not_true_eq_false,decide_false,Bool.false_or];rw[e2];simp only[ne_eq]at ih;omega
   ·have e1:nx l p=p+(shorter l p).2:=by unfold nx;rw[if_neg hs]
    have e2:em l p=(shorter l p).1:=by unfold em;rw[if_neg hs]
    have:=shorter_len hs;simp only[hs,ne_eq,not_false_eq_true,decide_true,Bool.true_or,if_true];rw[e2]
    split at ih<;>omega
  ·simp;exact h
theorem pass_len(l:List Ins):(pass l).1.length+(if(pass l).2 then 1 else 0)≤l.length:=by
 have:=pcs_len (l:=l) l.length 0 (Nat.zero_le _);unfold pass;simp only[List.length_map];rw[pass0_did,pass0_out];rw[Nat.zero_add]at this;exact this
end Go.Proofs.Ytgnhfinabhimpaa.Opt
