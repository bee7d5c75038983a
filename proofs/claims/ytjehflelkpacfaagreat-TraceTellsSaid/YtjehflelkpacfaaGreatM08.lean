/- What package verify computes: a unit's flow comes to an end. Plain Lean. -/
import Derived.Test.YtjehflelkpacfaaGreatM07
set_option linter.unusedVariables false
set_option linter.unusedSimpArgs false
set_option linter.unusedSectionVars false
set_option maxRecDepth 100000
namespace Go.Proofs.YtjehflelkpacfaaGreat.Ver
open ImgM
theorem find_nil(k:Int):find [] k=none:=rfl
theorem find_cons(p:Int×Shape)(l:List (Int×Shape))(k:Int):find (p::l) k=if p.1=k then some p.2 else find l k:=by
 unfold find
 by_cases h:p.1=k<;>simp[h]
theorem find_app(l:List (Int×Shape))(p q:Int)(s:Shape)(h:find l p=none):find (l ++[(p,s)]) q=if p=q then some s else find l q:=by
 induction l with
 |nil=>simp[find_cons,find_nil]
 |cons a l ih=>
  rw[find_cons]at h
  by_cases ha:a.1=p
  ·rw[if_pos ha]at h;cases h
  ·rw[if_neg ha]at h;rw[List.cons_append,find_cons,find_cons,ih h]
   by_cases haq:a.1=q
   ·have:¬p=q:=fun h=>ha (by rw[haq,h])
    rw[if_pos haq,if_neg this,if_pos haq]
   ·rw[if_neg haq,if_neg haq]
theorem find_put(l:List (Int×Shape))(p q:Int)(s s0:Shape)(h:find l p=some s0):find (put l p s) q=if p=q then some s else find l q:=by
 induction l with
 |nil=>cases h
 |cons a l ih=>
  rw[find_cons]at h;unfold put
  by_cases ha:a.1=p
  ·rw[if_pos ha,find_cons,find_cons]
   by_cases hpq:p=q
   ·rw[if_pos (by rw[ha];exact hpq),if_pos hpq]
   ·rw[if_neg (by simp only;rw[ha];exact hpq),if_neg hpq,if_neg (by rw[ha];exact hpq)]
  ·rw[if_neg ha]at h;rw[if_neg ha,find_cons,find_cons,ih h]
   by_cases haq:a.1=q
   ·have:¬p=q:=fun h=>ha (by rw[haq,h])
    rw[if_pos haq,if_neg this,if_pos haq]
   ·rw[if_neg haq,if_neg haq]
theorem meet_length:∀(a b:List Bool),a.length=b.length→(meet a b).length=a.length
 |[],[],_=>rfl
 |[],_::_,h=>by cases h
 |_::_,[],h=>by cases h
 |x::a,y::b,h=>by simp[meet,meet_length a b (by simpa using h)]
theorem meet_count:∀(a b:List Bool),a.length=b.length→(meet a b).count true≤a.count true∧(¬meet a b=a→(meet a b).count true<a.count true)
 |[],[],_=>⟨Nat.le_refl _,fun h=>absurd rfl h⟩
 |[],_::_,h=>by cases h
 |_::_,[],h=>by cases h
 |x::a,y::b,h=>by
  obtain⟨h1,h2⟩:=meet_count a b (by simpa using h);unfold meet
  cases x<;>cases y<;>simp only[Bool.and_true,Bool.and_false,Bool.true_and,Bool.false_and,List.count_cons,beq_self_eq_true,if_true]
  ·exact⟨by simpa using h1,fun hn=>by have:=h2 (fun e=>hn (by rw[e]));simpa using this⟩
  ·exact⟨by simpa using h1,fun hn=>by have:=h2 (fun e=>hn (by rw[e]));simpa using this⟩
  ·refine⟨by simp;omega,fun _=>by simp;omega⟩
  ·exact⟨by omega,fun hn=>by have:=h2 (fun e=>hn (by rw[e]));omega⟩
def weight(L:Nat):Option Shape→Nat
 |none=>L+1
 |some s=>s.2.count true
def room(n L:Nat)(l:List (Int×Shape)):Nat:=((List.range n).map fun(p:Nat)=>weight L (find l (p:Int))).sum
theorem room_nil(n L:Nat):room n L []=n*(L+1):=by
 unfold room;simp only[find_nil,weight]
 induction n with
 |zero=>simp
 |succ n ih=>rw[List.range_succ,Jq,List.sum_append,ih];simp[Nat.add_mul]
theorem sum_le(g h:Nat→Nat):∀(l:List Nat),(∀p,g p≤h p)→(l.map g).sum≤(l.map h).sum
 |[],_=>Nat.le_refl _
 |a::l,hle=>by
  simp only[List.map_cons,List.sum_cons];have:=sum_le g h l hle;have:=hle a;omega
theorem sum_lt(g h:Nat→Nat)(p0:Nat)(hlt:g p0<h p0):∀(l:List Nat),(∀p,g p≤h p)→p0∈l→(l.map g).sum<(l.map h).sum
 |[],_,hp=>by cases hp
 |a::l,hle,hp=>by
  simp only[List.map_cons,List.sum_cons];have h1:=hle a;have h2:=sum_le g h l hle;rcases List.mem_cons.1 hp with rfl|hp
  ·omega
  ·have:=sum_lt g h p0 hlt l hle hp;omega
structure Inv(n L:Nat)(f:Flow):Prop where
 has:f.has.length=L
 ent:∀p s,find f.at_ p=some s→s.1.length≤300∧(∀t∈s.1,In64 t)∧s.2.length=L
 todo:∀p∈f.todo,0≤p∧p<(n:Int)∧(find f.at_ p).isSome=true
theorem Inv.same{n L:Nat}{f g:Flow}(h:Inv n L f)(s:Same f g):Inv n L g:=
 ⟨by rw[s.has];exact h.has,by rw[s.at_];exact h.ent,by rw[s.todo,s.at_];exact h.todo⟩
structure Went(n L:Nat)(f g:Flow):Prop where
 inv:Inv n L g
 stack:g.stack=f.stack
 has:g.has=f.has
 err:¬f.err=0→g.err=f.err
 mu:g.todo.length+room n L g.at_≤f.todo.length+room n L f.at_
 old:∀p,(find f.at_ p).isSome=true→(find g.at_ p).isSome=true
theorem Went.refl{n L:Nat}{f:Flow}(h:Inv n L f):Went n L f f:=⟨h,rfl,rfl,fun _=>rfl,Nat.le_refl _,fun _ h=>h⟩
theorem fail_went{n L:Nat}{f:Flow}(h:Inv n L f)(e:Int):Went n L f (fail e f):=by
 have k:=fail_kept e f;have hst:(fail e f).stack=f.stack:=by unfold fail;split<;>rfl
 exact⟨h.same k.same,hst,k.same.has,k.err,by rw[k.same.todo,k.same.at_];exact Nat.le_refl _,fun p hp=>by rw[k.same.at_];exact hp⟩
theorem to_went{n L:Nat}{f:Flow}(h:Inv n L f){p:Int}(h0:0≤p)(hn:p≤(n:Int))(hs:f.err=0→f.stack.length≤300)(ht:∀t∈f.stack,In64 t):Went n L f (to n p f):=by
 unfold to
 by_cases he:¬f.err=0
 ·rw[if_pos he];exact Went.refl h
 have he:f.err=0:=Decidable.not_not.1 he;rw[if_neg (fun h=>h he)]
 by_cases hp:p=(n:Int)
 ·rw[if_pos hp];exact fail_went h 3
 rw[if_neg hp];have hmem:p.toNat∈List.range n:=List.mem_range.2 (by omega);have hcast:((p.toNat:Nat):Int)=p:=by omega
 cases hf:find f.at_ p with
 |none=>
  simp only;have hfa:=fun q=>find_app f.at_ p q (f.stack,f.has) hf
  have hcnt:f.has.count true≤L:=by rw[←h.has];exact List.count_le_length
  refine⟨⟨h.has,fun q s hq=>?_,fun q hq=>?_⟩,rfl,rfl,fun h=>absurd he h,?_,fun q hq=>?_⟩
  ·simp only at hq;rw[hfa]at hq
   by_cases hpq:p=q
   ·rw[if_pos hpq]at hq
    cases hq
    exact⟨hs he,ht,h.has⟩
   ·rw[if_neg hpq]at hq;exact h.ent q s hq
  ·simp only at hq⊢;rw[hfa]
   by_cases hpq:p=q
   ·subst hpq;rw[if_pos rfl];exact⟨h0,by omega,rfl⟩
   ·rw[if_neg hpq];rcases List.mem_append.1 hq with hq|hq
    ·exact h.todo q hq
    ·simp at hq;exact absurd hq.symm hpq
  ·simp only;have:=sum_lt (fun q=>weight L (find (f.at_ ++[(p,(f.stack,f.has))]) (q:Int))) (fun q=>weight L (find f.at_ (q:Int))) p.toNat (by
    (try simp only)
    rw[hfa,hcast,if_pos rfl,hf];simp only[weight];omega) (List.range n) (fun q=>by
    (try simp only)
    rw[hfa]
    split
    ·rename_i hpq;rw[←hpq,hf];simp only[weight];omega
    ·exact Nat.le_refl _) hmem
   unfold room;simp only[Jl,JW,List.length_nil];omega
  ·simp only;rw[hfa];split
   ·rfl
   ·exact hq
 |some s=>
  simp only;obtain⟨g1,g2,g3⟩:=h.ent p s hf
  by_cases hst:¬s.1=f.stack
  ·rw[if_pos hst];exact fail_went h 8
  have hst:s.1=f.stack:=Decidable.not_not.1 hst;rw[if_neg (fun h=>h hst)]
  by_cases hm:meet s.2 f.has=s.2
  ·rw[if_pos hm];exact Went.refl h
  rw[if_neg hm];have hfp:=fun q=>find_put f.at_ p q (s.1,meet s.2 f.has) s hf
  have hlen:=meet_length s.2 f.has (by rw[g3,h.has]);obtain⟨m1,m2⟩:=meet_count s.2 f.has (by rw[g3,h.has]);have m3:=m2 hm;refine⟨⟨h.has,fun q s' hq=>?_,fun q hq=>?_⟩,rfl,rfl,fun h=>absurd he h,?_,fun q hq=>?_⟩
  ·simp only at hq;rw[hfp]at hq
   by_cases hpq:p=q
   ·rw[if_pos hpq]at hq
    cases hq
    exact⟨g1,g2,by simp only;rw[hlen];exact g3⟩
   ·rw[if_neg hpq]at hq;exact h.ent q s' hq
  ·simp only at hq⊢;rw[hfp]
   by_cases hpq:p=q
   ·subst hpq;rw[if_pos rfl];exact⟨h0,by omega,rfl⟩
   ·rw[if_neg hpq];rcases List.mem_append.1 hq with hq|hq
    ·exact h.todo q hq
    ·simp at hq;exact absurd hq.symm hpq
  ·simp only;have:=sum_lt (fun q=>weight L (find (put f.at_ p (s.1,meet s.2 f.has)) (q:Int))) (fun q=>weight L (find f.at_ (q:Int))) p.toNat (by
    (try simp only)
    rw[hfp,hcast,if_pos rfl,hf];simp only[weight];omega) (List.range n) (fun q=>by
    (try simp only)
    rw[hfp]
    split
    ·rename_i hpq;rw[←hpq,hf];simp only[weight];omega
    ·exact Nat.le_refl _) hmem
   unfold room;simp only[Jl,JW,List.length_nil];omega
  ·simp only;rw[hfp];split
   ·rfl
   ·exact hq
structure Gone(n L:Nat)(f g:Flow):Prop where
 inv:Inv n L g
 len:g.stack.length≤301
 ok:g.err=0→g.stack.length≤300
 ty:∀t∈g.stack,In64 t
 mu:g.todo.length+room n L g.at_≤f.todo.length+room n L f.at_
theorem step_gone{M:Mdl}{u:Unt}(hg:Good M u){i:Ins}(hi:InsOk M u i){f:Flow}{n L:Nat}(hn:n=u.code.length)(hL:L=u.locals.length)(h:Inv n L f)(hl:f.stack.length≤300)(ht:∀t∈f.stack,In64 t):Gone n L f (step M u i f).2:=by
 have hs:=step_is hg hi f;generalize step M u i f=G at *
 cases hs with
 | @plain b g h1 h2 h3 hk=>
  exact⟨h.same hk.kept.same,Nat.le_trans hk.kept.len (by omega),fun he=>hk.ok he hl,hk.kept.ty ht,by rw[hk.kept.same.todo,hk.kept.same.at_];exact Nat.le_refl _⟩
 | @store g h1 hk=>
  have:=h.same hk.same;exact⟨⟨by simp only[Ji];exact this.has,this.ent,this.todo⟩,Nat.le_trans hk.len (by omega),fun _=>Nat.le_trans hk.len hl,hk.ty ht,by simp only;rw[hk.same.todo,hk.same.at_];exact Nat.le_refl _⟩
 |jump h1=>
  have hj:=hi.jump (.inl h1);have hw:=to_went (p:=i.a) h (by omega) (by omega) (fun _=>hl) ht;rw[←hn];exact⟨hw.inv,by simp only[hw.stack];omega,fun _=>by simp only[hw.stack];omega,by simp only[hw.stack];exact ht,hw.mu⟩
 |els h1=>
  have hj:=hi.jump (.inr h1);have hk:=want_kept [2] f;have hw:=to_went (p:=i.a) (h.same hk.same) (by omega) (by omega) (fun _=>Nat.le_trans hk.len hl) (hk.ty ht);have hl2:=Nat.le_trans hk.len hl;rw[←hn];exact⟨hw.inv,by simp only[hw.stack];omega,fun _=>by simp only[hw.stack];omega,by simp only[hw.stack];exact hk.ty ht,by
   have:=hw.mu;rw[hk.same.todo,hk.same.at_]at this;exact this⟩
structure Once(N:Nat)(l:List Int):Prop where
 nodup:l.Nodup
 ok:∀x∈l,0≤x∧x<(N:Int)
theorem nodup_le:∀(N:Nat) (l:List Int),Once N l→l.length≤N
 |0,l,h=>by
  cases l with
  |nil=>exact Nat.le_refl _
  |cons x r=>have:=h.ok x List.mem_cons_self;omega
 |N+1,l,h=>by
  have h2:Once N (l.filter fun x=>decide (x≠(N:Int))):=⟨h.nodup.filter _,fun x hx=>by
   rw[List.mem_filter]at hx;have:=h.ok x hx.1;have h3:x≠(N:Int):=by simpa using hx.2
   omega⟩
  have h3:=nodup_le N _ h2;have h4:∀l:List Int,l.Nodup→l.length≤(l.filter fun x=>decide (x≠(N:Int))).length+1:=by
   intro l hl
   induction l with
   |nil=>simp
   |cons a r ih=>
    rw[List.nodup_cons]at hl;rw[List.filter_cons]
    by_cases ha:a=(N:Int)
    ·have:r.filter (fun x=>decide (x≠(N:Int)))=r:=List.filter_eq_self.2 (fun x hx=>by
      have:x≠(N:Int):=fun e=>hl.1 (by rw[ha,←e];exact hx)
      simpa using this)
     rw[if_neg (by simpa using ha),this];simp
    ·rw[if_pos (by simpa using ha)];have:=ih hl.2;simp only[JW];omega
  have:=h4 l h.nodup;omega
theorem Once.len{N:Nat}{l:List Int}(h:Once N l):l.length≤N:=nodup_le N l h
theorem Once.snoc{N:Nat}{l:List Int}(h:Once N l){a:Int}(ha:a∉l)(h1:0≤a∧a<(N:Int)):Once N (l ++[a]):=by
 refine⟨?_,fun x hx=>?_⟩
 ·rw[List.nodup_append];exact⟨h.nodup,by simp,fun x hx y hy=>by
   simp at hy;subst hy;exact fun e=>ha (e▸hx)⟩
 ·rcases List.mem_append.1 hx with hx|hx
  ·exact h.ok x hx
  ·simp at hx;subst hx;exact h1
theorem Once.one{N k:Nat}(h:k<N):Once N [(k:Int)]:=⟨by simp,fun x hx=>by simp at hx;subst hx;omega⟩
def call1(out:List Int)(i:Ins):List Int:=if(i.op=23∨i.op=29)∧i.a∉out then out ++[i.a]else out
theorem calls_cons(i:Ins)(l:List Ins)(out:List Int):calls (i::l) out=calls l (call1 out i):=rfl
theorem calls_nil(out:List Int):calls [] out=out:=rfl
theorem call1_once{N:Nat}{out:List Int}{i:Ins}(h:Once N out)(hi:i.op=23∨i.op=29→0≤i.a∧i.a<(N:Int)):Once N (call1 out i):=by
 unfold call1
 split
 ·rename_i h1
  exact h.snoc h1.2 (hi h1.1)
 ·exact h
theorem calls_once{N:Nat}:∀(l:List Ins) (out:List Int),Once N out→(∀i∈l,i.op=23∨i.op=29→0≤i.a∧i.a<(N:Int))→Once N (calls l out)
 |[],_,h,_=>h
 |i::l,out,h,hi=>by
  rw[calls_cons];exact calls_once l _ (call1_once h (hi i List.mem_cons_self)) (fun j hj=>hi j (List.mem_cons_of_mem _ hj))
theorem reachRun_step{M:Mdl}{n k:Nat}{out:List Int}(h:k<out.length):reachRun M (n+1) k out=reachRun M n (k+1) (calls (M.units.getD (out.getD k 0).toNat default).code out):=by
 conv=>lhs;unfold reachRun
 rw[if_pos h]
theorem reachRun_end{M:Mdl}{n k:Nat}{out:List Int}(h:¬k<out.length):reachRun M n k out=out:=by
 cases n with
 |zero=>rfl
 |succ n=>unfold reachRun;rw[if_neg h]
theorem reachRun_once{M:Mdl}{N:Nat}(hc:∀k,k<N→∀i∈(M.units.getD k default).code,i.op=23∨i.op=29→0≤i.a∧i.a<(N:Int)):∀(n k:Nat) (out:List Int),Once N out→Once N (reachRun M n k out)
 |0,_,_,h=>h
 |n+1,k,out,h=>by
  unfold reachRun
  split
  ·rename_i hk
   refine reachRun_once hc n (k+1) _ (calls_once _ _ h (hc _ ?_));have:=h.ok (out.getD k 0) (by rw[Jd,Je hk];exact List.getElem_mem _);omega
  ·exact h
theorem owned_1{M:Mdl}{b n:Nat}(h:1<users M 26 b∨1<users M 27 b):owned M b (n+1)=⟨8,0,b⟩:=by unfold owned;rw[if_pos h]
theorem owned_2{M:Mdl}{b n:Nat}(h:¬(1<users M 26 b∨1<users M 27 b)):owned M b (n+1)=owned M (b+1) n:=by
 conv=>lhs;unfold owned
 rw[if_neg h]
def usersTo(M:Mdl)(op b:Int)(k:Nat):Nat:=((List.range k).filter fun k=>decide ((M.units.getD k default).kind=4)&&uses M op b k).length
theorem usersTo_succ(M:Mdl)(op b:Int)(k:Nat):usersTo M op b (k+1)=usersTo M op b k+if(decide ((M.units.getD k default).kind=4)&&uses M op b k)=true then 1 else 0:=by
 unfold usersTo;rw[List.range_succ,List.filter_append,Jl];congr 1;rw[List.filter_cons]
 split<;>rfl
theorem usersTo_le(M:Mdl)(op b:Int)(k:Nat):usersTo M op b k≤k:=by
 unfold usersTo;exact Nat.le_trans (List.length_filter_le _ _) (by simp)
theorem boxes_ok:∀(l:List (Int×Int)) (i:Nat),(boxes i l).err=0↔∀b∈l,plain b.1=true∧1≤b.2∧b.2≤20
 |[],i=>by simp[boxes,Where.ok]
 |b::r,i=>by
  by_cases h1:plain b.1=false
  ·rw[boxes_1 h1];simp[h1]
  ·have h1':plain b.1=true:=by simpa using h1
   by_cases h2:b.2<1∨20<b.2
   ·rw[boxes_2 h1' h2];simp only[List.forall_mem_cons];constructor
    ·intro h;simp at h
    ·rintro⟨⟨-,h3,h4⟩, -⟩;omega
   ·rw[boxes_3 h1' h2,boxes_ok r (i+1)];simp only[List.forall_mem_cons,h1',true_and];constructor
    ·intro h;exact⟨by omega,h⟩
    ·rintro⟨-,h⟩;exact h
theorem instrs_ok{M:Mdl}{u:Unt}{k:Nat}:∀(l:List Ins) (j:Nat),(instrs M u k j l).err=0↔∀i∈l,instr M u i=0
 |[],j=>by simp[instrs,Where.ok]
 |i::r,j=>by
  by_cases h:instr M u i=0
  ·rw[instrs_2 h,instrs_ok r (j+1)];simp[h]
  ·rw[instrs_1 h];simp[h]
theorem unit_ok{M:Mdl}{k:Nat}{u:Unt}:(unit M k u).err=0↔head M u=0∧∀i∈u.code,instr M u i=0:=by
 by_cases h:head M u=0
 ·rw[unit_2 h,instrs_ok];simp[h]
 ·rw[unit_1 h];simp[h]
theorem units_ok{M:Mdl}:∀(l:List Unt) (k:Nat),(units M k l).err=0↔∀u∈l,head M u=0∧∀i∈u.code,instr M u i=0
 |[],k=>by simp[units,Where.ok]
 |u::r,k=>by
  by_cases h:(unit M k u).err=0
  ·rw[units_2 h,units_ok r (k+1)];have:=unit_ok.1 h;simp only[List.forall_mem_cons];exact⟨fun h=>⟨this,h⟩,fun h=>h.2⟩
  ·rw[units_1 h];simp only[List.forall_mem_cons];exact⟨fun h'=>absurd h' h,fun h'=>absurd (unit_ok.2 h'.1) h⟩
structure FormOk(M:Mdl):Prop where
 nboxes:M.boxes.length≤30
 nunits:M.units.length≤30
 boxes:∀b∈M.boxes,plain b.1=true∧1≤b.2∧b.2≤20
 units:∀u∈M.units,head M u=0∧∀i∈u.code,instr M u i=0
 task:∃u∈M.units,u.kind=4
theorem form_ok{M:Mdl}:(form M).err=0↔FormOk M:=by
 by_cases h:30<M.boxes.length∨30<M.units.length
 ·rw[form_1 h];constructor
  ·intro h;simp at h
  ·intro h';have:=h'.nboxes;have:=h'.nunits;omega
 by_cases hb:¬(Ver.boxes 0 M.boxes).err=0
 ·rw[form_2 h rfl hb];exact⟨fun h'=>absurd h' hb,fun h'=>absurd ((boxes_ok _ _).2 h'.boxes) hb⟩
 have hb:(Ver.boxes 0 M.boxes).err=0:=Decidable.not_not.1 hb
 by_cases hu:¬(Ver.units M 0 M.units).err=0
 ·rw[form_3 h hb rfl hu];exact⟨fun h'=>absurd h' hu,fun h'=>absurd ((units_ok _ _).2 h'.units) hu⟩
 have hu:(Ver.units M 0 M.units).err=0:=Decidable.not_not.1 hu
 by_cases ht:(M.units.filter (fun u=>decide (u.kind=4))).length=0
 ·rw[form_4 h hb hu ht];constructor
  ·intro h;simp at h
  ·rintro⟨-, -, -, -,u,h1,h2⟩;have:u∈M.units.filter (fun u=>decide (u.kind=4)):=List.mem_filter.2 ⟨h1,by simpa using h2⟩;rw[List.eq_nil_of_length_eq_zero ht]at this
   cases this
 ·rw[form_5 h hb hu ht];refine⟨fun _=>⟨by omega,by omega,(boxes_ok _ _).1 hb,(units_ok _ _).1 hu,?_⟩,fun _=>rfl⟩
  cases hf:M.units.filter (fun u=>decide (u.kind=4))with
  |nil=>rw[hf]at ht;exact absurd rfl ht
  |cons u r=>
   have:u∈M.units.filter (fun u=>decide (u.kind=4)):=by rw[hf];exact List.mem_cons_self
   rw[List.mem_filter]at this;exact⟨u,this.1,by simpa using this.2⟩
theorem codes_1{M:Mdl}{k n:Nat}(h:¬(code M k).err=0):codes M k (n+1)=code M k:=by unfold codes;rw[if_pos h]
theorem codes_2{M:Mdl}{k n:Nat}(h:(code M k).err=0):codes M k (n+1)=codes M (k+1) n:=by
 conv=>lhs;unfold codes
 rw[if_neg (fun h'=>h' h)]
theorem codes_ok{M:Mdl}:∀(n k:Nat),(codes M k n).err=0↔∀j,k≤j→j<k+n→(code M j).err=0
 |0,k=>by
  unfold codes;exact⟨fun _ j h1 h2=>by omega,fun _=>rfl⟩
 |n+1,k=>by
  by_cases h:(code M k).err=0
  ·rw[codes_2 h,codes_ok n (k+1)];constructor
   ·intro h' j h1 h2
    by_cases hj:j=k
    ·subst hj;exact h
    ·exact h' j (by omega) (by omega)
   ·intro h' j h1 h2;exact h' j (by omega) (by omega)
  ·rw[codes_1 h];exact⟨fun h'=>absurd h' h,fun h'=>absurd (h' k (Nat.le_refl _) (by omega)) h⟩
theorem verify_1{M:Mdl}(h:¬(form M).err=0):verify M=form M:=by unfold verify;rw[if_pos h]
theorem verify_2{M:Mdl}(h:(form M).err=0)(h2:¬(codes M 0 M.units.length).err=0):verify M=codes M 0 M.units.length:=by
 unfold verify;rw[if_neg (fun h'=>h' h),if_pos h2]
theorem verify_3{M:Mdl}(h:(form M).err=0)(h2:(codes M 0 M.units.length).err=0):verify M=owned M 0 M.boxes.length:=by
 unfold verify;rw[if_neg (fun h'=>h' h),if_neg (fun h'=>h' h2)]
def re(a:List (Int×Shape))(t:List Int)(h:List Bool)(f:Flow):Flow:={f with at_:=a,todo:=t,has:=h}
section
variable(a:List (Int×Shape))(t:List Int)(h:List Bool)
theorem fail_re(e:Int)(f:Flow):fail e (re a t h f)=re a t h (fail e f):=by unfold fail re;split<;>rfl
theorem push_re(x:Int)(f:Flow):push x (re a t h f)=re a t h (push x f):=by
 unfold push;simp only[show(re a t h f).stack=f.stack from rfl]
 split
 ·exact fail_re a t h 4 {f with stack:=f.stack ++[x]}
 ·rfl
theorem pop1_re(f:Flow):(pop (re a t h f)).1=(pop f).1:=by
 unfold pop;simp only[show(re a t h f).stack=f.stack from rfl]
 split<;>rfl
theorem pop_re(f:Flow):(pop (re a t h f)).2=re a t h (pop f).2:=by
 unfold pop;simp only[show(re a t h f).stack=f.stack from rfl]
 split
 ·exact fail_re a t h 12 f
 ·rfl
theorem want1_re(x:Int)(f:Flow):want1 x (re a t h f)=re a t h (want1 x f):=by
 unfold want1;rw[pop1_re,pop_re]
 split
 ·exact fail_re a t h 9 _
 ·rfl
theorem want_re(l:List Int)(f:Flow):want l (re a t h f)=re a t h (want l f):=by
 induction l with
 |nil=>rfl
 |cons x r ih=>show want1 x (want r (re a t h f))=_;rw[ih,want1_re];rfl
theorem done_re(f:Flow):done (re a t h f)=re a t h (done f):=by
 unfold done;simp only[show(re a t h f).stack=f.stack from rfl]
 split
 ·rfl
 ·exact fail_re a t h 12 f
theorem gen1_re(M:Mdl)(f:Flow):(gen M (re a t h f)).1=(gen M f).1:=by
 unfold gen;rw[pop1_re,pop_re];simp only[show(re a t h (pop f).2).err=(pop f).2.err from rfl]
 split
 ·rfl
 split<;>rfl
theorem gen_re(M:Mdl)(f:Flow):(gen M (re a t h f)).2=re a t h (gen M f).2:=by
 unfold gen;rw[pop1_re,pop_re];simp only[show(re a t h (pop f).2).err=(pop f).2.err from rfl]
 split
 ·rfl
 split
 ·exact fail_re a t h 9 _
 ·rfl
theorem ite_re{c:Prop} [Decidable c](f g:Flow):(if c then re a t h f else re a t h g)=re a t h (if c then f else g):=by split<;>rfl
theorem special_re(M:Mdl)(u:Unt)(i:Ins)(f:Flow):special M u i (re a t h f)=((special M u i f).1,re a t h (special M u i f).2):=by
 unfold special;simp only[args,want_re,push_re,fail_re,ite_re,done_re,pop_re,pop1_re,gen_re,gen1_re,show(re a t h (pop f).2).err=(pop f).2.err from rfl]
 by_cases h1:i.op=23
 ·simp only[if_pos h1]
 simp only[if_neg h1]
 by_cases h2:i.op=29
 ·simp only[if_pos h2]
 simp only[if_neg h2]
 by_cases h3:i.op=24
 ·simp only[if_pos h3]
 simp only[if_neg h3]
 by_cases h4:i.op=25
 ·simp only[if_pos h4]
 simp only[if_neg h4]
 by_cases h5:i.op=26
 ·simp only[if_pos h5]
 simp only[if_neg h5]
 by_cases h6:i.op=27
 ·simp only[if_pos h6]
 simp only[if_neg h6]
 by_cases h7:i.op=28
 ·simp only[if_pos h7]
 simp only[if_neg h7]
 by_cases h8:i.op=30
 ·simp only[if_pos h8];have e1:=gen1_re a t h M (pop f).2;have e2:=gen_re a t h M (pop f).2;generalize gen M (re a t h (pop f).2)=G at *;generalize gen M (pop f).2=G' at *;obtain⟨o,g⟩:=G;obtain⟨o',g'⟩:=G';simp only at e1 e2;subst e1 e2
  cases o with
  |none=>rfl
  |some k=>simp only[fail_re,ite_re,push_re]
 simp only[if_neg h8]
 by_cases h9:i.op=31
 ·simp only[if_pos h9]
 simp only[if_neg h9]
 by_cases h10:i.op=32
 ·simp only[if_pos h10]
 simp only[if_neg h10]
def core(M:Mdl)(u:Unt)(i:Ins)(f:Flow):Flow:=if i.op=21 then f else if i.op=22 then want [2] f else(step M u i f).2
theorem step_re(M:Mdl)(u:Unt)(i:Ins)(f:Flow)(h3:i.op≠3)(h4:i.op≠4)(h21:i.op≠21)(h22:i.op≠22):step M u i (re a t h f)=((step M u i f).1,re a t h (step M u i f).2):=by
 unfold step;simp only[want_re,push_re,fail_re,ite_re,pop_re,pop1_re,special_re,if_neg h3,if_neg h4,if_neg h21,if_neg h22]
 by_cases h1:i.op=1
 ·simp only[if_pos h1]
 simp only[if_neg h1]
 by_cases h2:i.op=2
 ·simp only[if_pos h2]
 simp only[if_neg h2]
 by_cases h5:i.op=5
 ·simp only[if_pos h5]
 simp only[if_neg h5]
 by_cases h6:i.op=6
 ·simp only[if_pos h6]
 simp only[if_neg h6]
 by_cases h7:i.op=7
 ·simp only[if_pos h7]
 simp only[if_neg h7]
 by_cases h8:8≤i.op∧i.op≤12
 ·simp only[if_pos h8]
 simp only[if_neg h8]
 by_cases h9:i.op=13∨i.op=14
 ·simp only[if_pos h9]
 simp only[if_neg h9]
 by_cases h10:15≤i.op∧i.op≤18
 ·simp only[if_pos h10]
 simp only[if_neg h10]
 by_cases h11:i.op=19∨i.op=20
 ·simp only[if_pos h11]
 simp only[if_neg h11]
end
theorem step_3(M:Mdl)(u:Unt)(i:Ins)(f:Flow)(h:i.op=3):step M u i f=(true,push (u.locals.getD i.a.toNat 0) (if f.has.getD i.a.toNat false then f else fail 11 f)):=by
 unfold step;rw[if_neg (by omega),if_neg (by omega),if_pos h]
theorem step_4(M:Mdl)(u:Unt)(i:Ins)(f:Flow)(h:i.op=4):step M u i f=(true,{want [u.locals.getD i.a.toNat 0] f with has:=(want [u.locals.getD i.a.toNat 0] f).has.set i.a.toNat true}):=by
 unfold step;rw[if_neg (by omega),if_neg (by omega),if_neg (by omega),if_pos h]
theorem re_self(f:Flow):re f.at_ f.todo f.has f=f:=rfl
theorem step_rest{M:Mdl}{u:Unt}{i:Ins}{f:Flow}(h3:i.op≠3)(h4:i.op≠4)(h21:i.op≠21)(h22:i.op≠22):(step M u i f).2=re f.at_ f.todo f.has (step M u i f).2:=by
 have:=step_re f.at_ f.todo f.has M u i f h3 h4 h21 h22;rw[re_self]at this;exact congrArg Prod.snd this
theorem step_21{M:Mdl}{u:Unt}{i:Ins}{f:Flow}(h:i.op=21):step M u i f=(false,to u.code.length i.a f):=by
 unfold step;rw[if_neg (by omega),if_neg (by omega),if_neg (by omega),if_neg (by omega),if_neg (by omega),if_neg (by omega),if_neg (by omega),if_neg (by omega),if_neg (by omega),if_neg (by omega),if_neg (by omega),if_pos h]
theorem step_22{M:Mdl}{u:Unt}{i:Ins}{f:Flow}(h:i.op=22):step M u i f=(true,to u.code.length i.a (want [2] f)):=by
 unfold step;rw[if_neg (by omega),if_neg (by omega),if_neg (by omega),if_neg (by omega),if_neg (by omega),if_neg (by omega),if_neg (by omega),if_neg (by omega),if_neg (by omega),if_neg (by omega),if_neg (by omega),if_neg (by omega),if_pos h]
theorem step_done{M:Mdl}{u:Unt}{i:Ins}{f:Flow}(h:i.op=24∨i.op=25):(step M u i f).1=false:=by
 have e:step M u i f=special M u i f:=by
  unfold step;rw[if_neg (by omega),if_neg (by omega),if_neg (by omega),if_neg (by omega),if_neg (by omega),if_neg (by omega),if_neg (by omega),if_neg (by omega),if_neg (by omega),if_neg (by omega),if_neg (by omega),if_neg (by omega),if_neg (by omega)]
 rw[e];unfold special;rw[if_neg (by omega),if_neg (by omega)];rcases h with h|h
 ·rw[if_pos h]
 ·rw[if_neg (by omega),if_pos h]
theorem ite_true1{c:Prop} [Decidable c]{a:Flow}{b:Bool×Flow}(h:¬c→b.1=true):(if c then(true,a)else b).1=true:=by
 split
 ·rfl
 ·exact h ‹_›
theorem step_on{M:Mdl}{u:Unt}{i:Ins}{f:Flow}(h1:i.op≠21)(h2:i.op≠24)(h3:i.op≠25):(step M u i f).1=true:=by
 unfold step;refine ite_true1 fun _=>ite_true1 fun _=>ite_true1 fun _=>ite_true1 fun _=>ite_true1 fun _=>ite_true1 fun _=>ite_true1 fun _=>ite_true1 fun _=>ite_true1 fun _=>ite_true1 fun _=>ite_true1 fun _=>?_
 rw[if_neg h1];refine ite_true1 fun _=>?_
 unfold special;refine ite_true1 fun _=>ite_true1 fun _=>?_
 rw[if_neg h2,if_neg h3];exact ite_true1 fun _=>ite_true1 fun _=>ite_true1 fun _=>ite_true1 fun _=>ite_true1 fun _=>ite_true1 fun _=>rfl
def sem(M:Mdl)(u:Unt)(i:Ins)(s:Shape):Flow:=core M u i ⟨[],[],s.1,s.2,0⟩
theorem core_re(a:List (Int×Shape))(t:List Int)(M:Mdl)(u:Unt)(i:Ins)(f:Flow):core M u i (re a t f.has f)=re a t (core M u i f).has (core M u i f):=by
 unfold core
 by_cases h21:i.op=21
 ·rw[if_pos h21,if_pos h21]
 rw[if_neg h21,if_neg h21]
 by_cases h22:i.op=22
 ·rw[if_pos h22,if_pos h22,want_re,(want_kept [2] f).same.has]
 rw[if_neg h22,if_neg h22]
 by_cases h3:i.op=3
 ·rw[step_3 M u i _ h3,step_3 M u i _ h3];simp only;have hp:=fun g:Flow=>push_re a t f.has (u.locals.getD i.a.toNat 0) g
  by_cases hb:f.has.getD i.a.toNat false=true
  ·rw[if_pos (by exact hb),if_pos hb,hp];congr 1;have:(push (u.locals.getD i.a.toNat 0) f)=re f.at_ f.todo f.has (push (u.locals.getD i.a.toNat 0) f):=by
    have:=push_re f.at_ f.todo f.has (u.locals.getD i.a.toNat 0) f;rwa [re_self]at this
   rw[this];rfl
  ·rw[if_neg (by exact hb),if_neg hb,fail_re,hp];congr 1;have:(push (u.locals.getD i.a.toNat 0) (fail 11 f))=re f.at_ f.todo f.has (push (u.locals.getD i.a.toNat 0) (fail 11 f)):=by
    have:=push_re f.at_ f.todo f.has (u.locals.getD i.a.toNat 0) (fail 11 f);rw[←fail_re,re_self]at this;exact this
   rw[this];rfl
 by_cases h4:i.op=4
 ·rw[step_4 M u i _ h4,step_4 M u i _ h4];simp only;rw[want_re];have:=(want_kept [u.locals.getD i.a.toNat 0] f).same.has;simp only[re,this]
 rw[step_re a t f.has M u i f h3 h4 h21 h22];simp only;rw[show(step M u i f).2.has=f.has by rw[step_rest h3 h4 h21 h22];rfl]
theorem core_sem(M:Mdl)(u:Unt)(i:Ins)(f:Flow)(he:f.err=0):core M u i f=re f.at_ f.todo (sem M u i (f.stack,f.has)).has (sem M u i (f.stack,f.has)):=by
 have:=core_re f.at_ f.todo M u i ⟨[],[],f.stack,f.has,0⟩;have e:re f.at_ f.todo f.has ⟨[],[],f.stack,f.has,0⟩=f:=by unfold re;rw[←he]
 simp only at this;rw[e]at this;exact this
def Le(a b:List Bool):Prop:=a.length=b.length∧∀j,a.getD j false=true→b.getD j false=true
theorem Le.refl(a:List Bool):Le a a:=⟨rfl,fun _ h=>h⟩
theorem Le.trans{a b c:List Bool}(h:Le a b)(k:Le b c):Le a c:=⟨h.1.trans k.1,fun j x=>k.2 j (h.2 j x)⟩
theorem getD_setB{l:List Bool}{k j:Nat}{v:Bool}:(l.set k v).getD j false=if k=j∧j<l.length then v else l.getD j false:=by
 simp only[Jd,List.getElem?_set]
 by_cases h:k=j
 ·subst h
  by_cases hk:k<l.length
  ·simp[hk]
  ·simp[hk]
 ·simp[h]
theorem meet_getD:∀(a b:List Bool) (j:Nat),a.length=b.length→(meet a b).getD j false=(a.getD j false&&b.getD j false)
 |[],[],j,_=>by simp[meet]
 |[],_::_,_,h=>by cases h
 |_::_,[],_,h=>by cases h
 |x::a,y::b,0,_=>rfl
 |x::a,y::b,j+1,h=>by
  have:=meet_getD a b j (by simpa using h);simpa[meet]using this
theorem meet_left{a b:List Bool}(h:a.length=b.length):Le (meet a b) a:=⟨meet_length a b h,fun j hj=>by rw[meet_getD a b j h,JX]at hj;exact hj.1⟩
theorem meet_right{a b:List Bool}(h:a.length=b.length):Le (meet a b) b:=⟨(meet_length a b h).trans h,fun j hj=>by rw[meet_getD a b j h,JX]at hj;exact hj.2⟩
def nexts(i:Ins)(p:Int):List Int:=if i.op=21 then [i.a]else if i.op=22 then [i.a,p+1]else if i.op=24∨i.op=25 then []else [p+1]
def tos(n:Nat)(l:List Int)(f:Flow):Flow:=l.foldl (fun f q=>to n q f) f
theorem tos_cons(n:Nat)(q:Int)(l:List Int)(f:Flow):tos n (q::l) f=tos n l (to n q f):=rfl
theorem tos_nil(n:Nat)(f:Flow):tos n [] f=f:=rfl
def ins(u:Unt)(p:Int):Ins:=u.code.getD p.toNat default
theorem round_eq{M:Mdl}{u:Unt}{p:Int}{r:List Int}{f:Flow}{s:Shape}(hs:find f.at_ p=some s)(he:f.err=0):
  round M u p r f=tos u.code.length (nexts (ins u p) p) (re f.at_ r (sem M u (ins u p) s).has (sem M u (ins u p) s)):=by
 have hc:=core_sem M u (ins u p) {f with todo:=r,stack:=s.1,has:=s.2} he;simp only at hc;rw[←hc];unfold round;simp only[hs,JZ];show(if(step M u (ins u p) _).1=true then to u.code.length (p+1) (step M u (ins u p) _).2 else(step M u (ins u p) _).2)=_;unfold nexts core
 by_cases h21:(ins u p).op=21
 ·rw[if_pos h21,if_pos h21,step_21 h21];rfl
 rw[if_neg h21,if_neg h21]
 by_cases h22:(ins u p).op=22
 ·rw[if_pos h22,if_pos h22,step_22 h22];rfl
 rw[if_neg h22,if_neg h22]
 by_cases h24:(ins u p).op=24∨(ins u p).op=25
 ·rw[if_pos h24,step_done h24];rfl
 rw[if_neg h24,step_on h21 (fun h=>h24 (.inl h)) (fun h=>h24 (.inr h))];rfl
def has0(u:Unt):List Bool:=List.replicate u.params.toNat true ++List.replicate (u.locals.length-u.params.toNat) false
structure Fits(M:Mdl)(u:Unt)(τ:Int→Option Shape)(p:Int)(s:Shape):Prop where
 ok:(sem M u (ins u p) s).err=0
 next:∀q∈nexts (ins u p) p,∃h,τ q=some ((sem M u (ins u p) s).stack,h)∧Le h (sem M u (ins u p) s).has
structure Cert(M:Mdl)(u:Unt)(τ:Int→Option Shape):Prop where
 start:∃h,τ 0=some ([],h)∧Le h (has0 u)
 rng:∀p s,τ p=some s→0≤p∧p<(u.code.length:Int)
 fits:∀p s,τ p=some s→Fits M u τ p s
structure Below(τ:Int→Option Shape)(f:Flow):Prop where
 err:f.err=0
 at_:∀p s,find f.at_ p=some s→∃t,τ p=some (s.1,t)∧Le t s.2
 todo:∀p∈f.todo,∃s,find f.at_ p=some s
structure Grew(f g:Flow):Prop where
 ext:∀q st h,find f.at_ q=some (st,h)→∃h',find g.at_ q=some (st,h')∧Le h' h
 new:∀p s,find g.at_ p=some s→find f.at_ p=some s∨p∈g.todo
 todo:∀p∈f.todo,p∈g.todo
theorem Grew.refl(f:Flow):Grew f f:=⟨fun _ _ h e=>⟨h,e,Le.refl _⟩,fun _ _ e=> .inl e,fun _ e=>e⟩
theorem Grew.trans{f g k:Flow}(a:Grew f g)(b:Grew g k):Grew f k:=
 ⟨fun q st h e=>by
  obtain⟨h1,e1,l1⟩:=a.ext q st h e;obtain⟨h2,e2,l2⟩:=b.ext q st h1 e1;exact⟨h2,e2,l2.trans l1⟩,
 fun p s e=>by
  rcases b.new p s e with e|e
  ·rcases a.new p s e with e|e
   ·exact .inl e
   ·exact .inr (b.todo p e)
  ·exact .inr e,
 fun p e=>b.todo p (a.todo p e)⟩
theorem to_grew{n L:Nat}{f:Flow}(hi:Inv n L f){q:Int}(he:(to n q f).err=0):f.err=0∧q≠(n:Int)∧Grew f (to n q f)∧∃h,find (to n q f).at_ q=some (f.stack,h)∧Le h f.has:=by
 unfold to at he⊢
 by_cases h0:¬f.err=0
 ·rw[if_pos h0]at he;exact absurd he h0
 have h0:f.err=0:=Decidable.not_not.1 h0;rw[if_neg (fun h=>h h0)]at he⊢
 by_cases hq:q=(n:Int)
 ·rw[if_pos hq]at he;exact absurd he (fail_err 3 (by decide) f)
 rw[if_neg hq]at he⊢;refine⟨h0,hq,?_⟩
 cases hf:find f.at_ q with
 |none=>
  rw[hf]at he;simp only at he⊢;have hfa:=fun p=>find_app f.at_ q p (f.stack,f.has) hf
  refine⟨⟨fun p st h e=>?_,fun p s e=>?_,fun p e=>List.mem_append_left _ e⟩,f.has,?_,Le.refl _⟩
  ·rw[hfa]
   by_cases hqp:q=p
   ·rw[←hqp,hf]at e;cases e
   ·rw[if_neg hqp];exact⟨h,e,Le.refl _⟩
  ·simp only at e⊢;rw[hfa]at e
   by_cases hqp:q=p
   ·exact .inr (List.mem_append_right _ (by rw[hqp];exact List.mem_cons_self))
   ·rw[if_neg hqp]at e;exact .inl e
  ·rw[hfa,if_pos rfl]
 |some s=>
  rw[hf]at he;simp only at he⊢;have hlen:s.2.length=f.has.length:=by rw[(hi.ent q s hf).2.2,hi.has]
  by_cases hst:¬s.1=f.stack
  ·rw[if_pos hst]at he;exact absurd he (fail_err 8 (by decide) f)
  have hst:s.1=f.stack:=Decidable.not_not.1 hst;rw[if_neg (fun h=>h hst)]at he⊢
  by_cases hm:meet s.2 f.has=s.2
  ·rw[if_pos hm];refine⟨Grew.refl f,s.2,by rw[hf,←hst],?_⟩;have:=meet_right hlen;rw[hm]at this;exact this
  rw[if_neg hm];have hfp:=fun p=>find_put f.at_ q p (s.1,meet s.2 f.has) s hf
  refine⟨⟨fun p st h e=>?_,fun p s' e=>?_,fun p e=>List.mem_append_left _ e⟩,meet s.2 f.has,?_,meet_right hlen⟩
  ·rw[hfp]
   by_cases hqp:q=p
   ·rw[if_pos hqp];rw[←hqp,hf]at e
    cases e
    exact⟨_,rfl,meet_left hlen⟩
   ·rw[if_neg hqp];exact⟨h,e,Le.refl _⟩
  ·simp only at e⊢;rw[hfp]at e
   by_cases hqp:q=p
   ·exact .inr (List.mem_append_right _ (by rw[hqp];exact List.mem_cons_self))
   ·rw[if_neg hqp]at e;exact .inl e
  ·rw[hfp,if_pos rfl,hst]
structure Tos(n L:Nat)(l:List Int)(f g:Flow):Prop where
 err:f.err=0
 grew:Grew f g
 there:∀q∈l,q≠(n:Int)∧∃h,find g.at_ q=some (f.stack,h)∧Le h f.has
 inv:Inv n L g
 mu:g.todo.length+room n L g.at_≤f.todo.length+room n L f.at_
theorem tos_ok{n L:Nat}:∀(l:List Int) (f:Flow),Inv n L f→(∀q∈l,0≤q∧q≤(n:Int))→(f.err=0→f.stack.length≤300)→(∀t∈f.stack,In64 t)→(tos n l f).err=0→Tos n L l f (tos n l f)
 |[],f,hi,_,_,_,he=>⟨he,Grew.refl f,fun q hq=>(by cases hq),hi,Nat.le_refl _⟩
 |q::l,f,hi,hq,hs,ht,he=>by
  rw[tos_cons]at he⊢;obtain⟨q1,q2⟩:=hq q List.mem_cons_self;have hw:=to_went hi q1 q2 hs ht;have hs':(to n q f).err=0→(to n q f).stack.length≤300:=fun e=>by
   rw[hw.stack];refine hs (Decidable.byContradiction fun hn=>?_);rw[hw.err hn]at e;exact hn e
  have h:=tos_ok l (to n q f) hw.inv (fun q' h'=>hq q' (List.mem_cons_of_mem _ h')) hs' (by rw[hw.stack];exact ht) he;obtain⟨e1,e2,e3,hh,e4,e5⟩:=to_grew hi h.err;refine⟨e1,e3.trans h.grew,fun q' h'=>?_,h.inv,Nat.le_trans h.mu hw.mu⟩;rcases List.mem_cons.1 h' with rfl|h'
  ·refine⟨e2,?_⟩;obtain⟨h2,k1,k2⟩:=h.grew.ext _ _ _ e4;exact⟨h2,k1,k2.trans e5⟩
  ·have:=h.there q' h';rw[hw.stack,hw.has]at this;exact this
structure Cons(M:Mdl)(u:Unt)(f:Flow):Prop where
 inv:Inv u.code.length u.locals.length f
 err:f.err=0
 fits:∀p s,find f.at_ p=some s→p∈f.todo∨Fits M u (find f.at_) p s
 rng:∀p s,find f.at_ p=some s→0≤p∧p<(u.code.length:Int)
 start:∃h,find f.at_ 0=some ([],h)∧Le h (has0 u)
theorem Fits.grew{M:Mdl}{u:Unt}{f g:Flow}(h:Grew f g){p:Int}{s:Shape}(hf:Fits M u (find f.at_) p s):Fits M u (find g.at_) p s:=
 ⟨hf.ok,fun q hq=>by
  obtain⟨k,k1,k2⟩:=hf.next q hq;obtain⟨k',k3,k4⟩:=h.ext _ _ _ k1;exact⟨k',k3,k4.trans k2⟩⟩
theorem ins_ok{M:Mdl}{u:Unt}(hg:Good M u){p:Int}(h:0≤p∧p<(u.code.length:Int)):InsOk M u (ins u p):=by
 refine instr_ok (hg.code _ ?_);unfold ins;rw[Jd,Je (by omega)];exact List.getElem_mem _
theorem nexts_ok{M:Mdl}{u:Unt}{p:Int}(hi:InsOk M u (ins u p))(h:0≤p∧p<(u.code.length:Int)):∀q∈nexts (ins u p) p,0≤q∧q≤(u.code.length:Int):=by
 unfold nexts;intro q hq
 by_cases h21:(ins u p).op=21
 ·rw[if_pos h21]at hq;have:=hi.jump (.inl h21);simp at hq;omega
 rw[if_neg h21]at hq
 by_cases h22:(ins u p).op=22
 ·rw[if_pos h22]at hq;have:=hi.jump (.inr h22);simp at hq;omega
 rw[if_neg h22]at hq
 by_cases h24:(ins u p).op=24∨(ins u p).op=25
 ·rw[if_pos h24]at hq;cases hq
 ·rw[if_neg h24]at hq;simp at hq;omega
theorem core_gone{M:Mdl}{u:Unt}(hg:Good M u){i:Ins}(hi:InsOk M u i){f:Flow}(h:Inv u.code.length u.locals.length f)(hl:f.stack.length≤300)(ht:∀t∈f.stack,In64 t):Gone u.code.length u.locals.length f (core M u i f):=by
 unfold core
 by_cases h21:i.op=21
 ·rw[if_pos h21];exact⟨h,by omega,fun _=>hl,ht,Nat.le_refl _⟩
 rw[if_neg h21]
 by_cases h22:i.op=22
 ·rw[if_pos h22];have hk:=want_kept [2] f;have:=hk.len;exact⟨h.same hk.same,by omega,fun _=>by omega,hk.ty ht,by rw[hk.same.todo,hk.same.at_];exact Nat.le_refl _⟩
 rw[if_neg h22];exact step_gone hg hi rfl rfl h hl ht
theorem round_cons{M:Mdl}{u:Unt}(hg:Good M u){p:Int}{r:List Int}{f:Flow}(hc:Cons M u f)(ht:f.todo=p::r)(he:(round M u p r f).err=0):
  Cons M u (round M u p r f)∧(round M u p r f).todo.length+room u.code.length u.locals.length (round M u p r f).at_<f.todo.length+room u.code.length u.locals.length f.at_:=by
 obtain⟨t1,t2,t3⟩:=hc.inv.todo p (by rw[ht];exact List.mem_cons_self);obtain⟨s,hs⟩:=Option.isSome_iff_exists.1 t3;have hi:=ins_ok hg ⟨t1,t2⟩;obtain⟨s1,s2,s3⟩:=hc.inv.ent p s hs;have hc0:=core_sem M u (ins u p) {f with todo:=r,stack:=s.1,has:=s.2} hc.err;simp only at hc0;have hgo:=core_gone hg hi (f:={f with todo:=r,stack:=s.1,has:=s.2}) ⟨s3,hc.inv.ent,fun q hq=>hc.inv.todo q (by rw[ht];exact List.mem_cons_of_mem _ hq)⟩ s1 s2;rw[hc0]at hgo;rw[round_eq hs hc.err]at he⊢;generalize hG:re f.at_ r (sem M u (ins u p) s).has (sem M u (ins u p) s)=G at *;have hGst:G.stack=(sem M u (ins u p) s).stack:=by rw[←hG];rfl
 have hGh:G.has=(sem M u (ins u p) s).has:=by rw[←hG];rfl
 have hGe:G.err=(sem M u (ins u p) s).err:=by rw[←hG];rfl
 have hGa:G.at_=f.at_:=by rw[←hG];rfl
 have hGt:G.todo=r:=by rw[←hG];rfl
 have hT:=tos_ok _ G hgo.inv (nexts_ok hi ⟨t1,t2⟩) hgo.ok hgo.ty he;generalize tos u.code.length (nexts (ins u p) p) G=R at *;refine⟨⟨hT.inv,he,fun q s' hq=>?_,fun q s' hq=>?_,?_⟩,?_⟩
 ·rcases hT.grew.new q s' hq with e|e
  ·rw[hGa]at e
   by_cases hqp:q=p
   ·subst hqp;rw[hs]at e
    cases e
    refine .inr ⟨by rw[←hGe];exact hT.err,fun q' hq'=>?_⟩;have:=(hT.there q' hq').2;rw[hGst,hGh]at this;exact this
   ·rcases hc.fits q s' e with e'|e'
    ·rw[ht]at e';rcases List.mem_cons.1 e' with e'|e'
     ·exact absurd e' hqp
     ·exact .inl (hT.grew.todo q (by rw[hGt];exact e'))
    ·rw[←hGa]at e';exact .inr (Fits.grew hT.grew e')
  ·exact .inl e
 ·rcases hT.grew.new q s' hq with e|e
  ·rw[hGa]at e;exact hc.rng q s' e
  ·have:=hT.inv.todo q e;exact⟨this.1,this.2.1⟩
 ·obtain⟨h,h1,h2⟩:=hc.start;rw[←hGa]at h1;obtain⟨h',h3,h4⟩:=hT.grew.ext _ _ _ h1;exact⟨h',h3,h4.trans h2⟩
 ·have:=hT.mu;rw[hGa,hGt]at this;rw[ht];simp only[JW];omega
theorem run_cert{M:Mdl}{u:Unt}(hg:Good M u)(k:Nat):∀(n:Nat) (f:Flow),Cons M u f→f.todo.length+room u.code.length u.locals.length f.at_<n→(run M u k n f).err=0→∃τ,Cert M u τ∧∀p s,τ p=some s→s.1.length≤300∧s.2.length=u.locals.length
 |0,_,_,h,_=>by omega
 |n+1,f,hc,hn,he=>by
  unfold run at he
  cases ht:f.todo with
  |nil=>
   refine⟨find f.at_,⟨hc.start,hc.rng,fun p s hp=>?_⟩,fun p s hp=>⟨(hc.inv.ent p s hp).1,(hc.inv.ent p s hp).2.2⟩⟩;rcases hc.fits p s hp with h|h
   ·rw[ht]at h;cases h
   ·exact h
  |cons p r=>
   rw[ht]at he;simp only at he
   by_cases hr:¬(round M u p r f).err=0
   ·rw[if_pos hr]at he;exact absurd he hr
   have hr:(round M u p r f).err=0:=Decidable.not_not.1 hr;rw[if_neg (fun h=>h hr)]at he;obtain⟨h1,h2⟩:=round_cons hg hc ht hr;exact run_cert hg k n _ h1 (by omega) he
theorem cert_of_code{M:Mdl}{k:Nat}(hg:Good M (M.units.getD k default))(hp:(M.units.getD k default).params.toNat≤(M.units.getD k default).locals.length)(h1:1≤(M.units.getD k default).code.length)(h:(code M k).err=0):
  ∃τ,Cert M (M.units.getD k default) τ∧∀p s,τ p=some s→s.1.length≤300∧s.2.length=(M.units.getD k default).locals.length:=by
 unfold code at h;generalize M.units.getD k default=u at *;have hst:Ver.start u=to u.code.length 0 ⟨[],[],[],has0 u,0⟩:=rfl;have hI:Inv u.code.length u.locals.length ⟨[],[],[],has0 u,0⟩:=⟨by simp only[has0,Jl,List.length_replicate];omega,fun p s hp=>(by cases hp),fun p hp=>(by cases hp)⟩;have hw:=to_went hI (p:=0) (by omega) (by omega) (fun _=>Nat.zero_le _) (fun t h=>by cases h);have he:(to u.code.length 0 ⟨[],[],[],has0 u,0⟩).err=0:=by
  unfold to;rw[if_neg (fun h=>h rfl),if_neg (by omega)];rfl
 obtain⟨g1,g2,g3,hh,g4,g5⟩:=to_grew hI he;rw[←hst]at he g3 g4 hw;have hm:=hw.mu;rw[room_nil]at hm;simp only[List.length_nil]at hm;refine run_cert hg k _ _ ⟨hw.inv,he,fun p s hp=>?_,fun p s hp=>?_,hh,g4,g5⟩ ?_ h
 ·rcases g3.new p s hp with e|e
  ·cases e
  ·exact .inl e
 ·rcases g3.new p s hp with e|e
  ·cases e
  ·have:=hw.inv.todo p e;exact⟨this.1,this.2.1⟩
 ·unfold most;omega
theorem run_eq{M:Mdl}{u:Unt}{k:Nat}:∀(n:Nat) (f:Flow),(run M u k n f).err=0→run M u k n f= .ok
 |0,_,_=>rfl
 |n+1,f,h=>by
  unfold run at h⊢
  cases ht:f.todo with
  |nil=>rfl
  |cons p r=>
   rw[ht]at h;simp only at h⊢
   by_cases hr:(round M u p r f).err≠0
   ·rw[if_pos hr]at h;exact absurd h hr
   ·rw[if_neg hr]at h⊢;exact run_eq n _ h
theorem owned_ok{M:Mdl}:∀(n b:Nat),(owned M b n).err=0↔∀j,b≤j→j<b+n→¬(1<users M 26 j∨1<users M 27 j)
 |0,b=>by
  unfold owned;exact⟨fun _ j h1 h2=>by omega,fun _=>rfl⟩
 |n+1,b=>by
  by_cases h:1<users M 26 b∨1<users M 27 b
  ·rw[owned_1 h];exact⟨fun h'=>by simp at h',fun h'=>absurd h (h' b (Nat.le_refl _) (by omega))⟩
  ·rw[owned_2 h,owned_ok n (b+1)];constructor
   ·intro h' j h1 h2
    by_cases hj:j=b
    ·subst hj;exact h
    ·exact h' j (by omega) (by omega)
   ·intro h' j h1 h2;exact h' j (by omega) (by omega)
theorem owned_eq{M:Mdl}:∀(n b:Nat),(owned M b n).err=0→owned M b n= .ok
 |0,_,_=>by unfold owned;rfl
 |n+1,b,h=>by
  by_cases hu:1<users M 26 b∨1<users M 27 b
  ·rw[owned_1 hu]at h;simp at h
  ·rw[owned_2 hu]at h⊢;exact owned_eq n _ h
structure Right(M:Mdl):Prop where
 form:FormOk M
 code:∀k,k<M.units.length→(code M k).err=0
 owned:∀b,b<M.boxes.length→users M 26 b≤1∧users M 27 b≤1
theorem verify_ok{M:Mdl}:(verify M).err=0↔Right M:=by
 by_cases h:(form M).err=0
 ·by_cases h2:(codes M 0 M.units.length).err=0
  ·rw[verify_3 h h2,owned_ok];constructor
   ·intro h3;refine⟨form_ok.1 h,fun k hk=>(codes_ok _ _).1 h2 k (Nat.zero_le _) (by omega),fun b hb=>?_⟩;have:=h3 b (Nat.zero_le _) (by omega);omega
   ·rintro⟨-, -,h3⟩ j-hj;have:=h3 j (by omega);omega
  ·rw[verify_2 h h2];exact⟨fun h'=>absurd h' h2,fun h'=>absurd ((codes_ok _ _).2 (fun j _ hj=>h'.code j (by omega))) h2⟩
 ·rw[verify_1 h];exact⟨fun h'=>absurd h' h,fun h'=>absurd (form_ok.2 h'.form) h⟩
theorem verify_eq{M:Mdl}(h:(verify M).err=0):verify M= .ok:=by
 by_cases h1:(form M).err=0
 ·by_cases h2:(codes M 0 M.units.length).err=0
  ·rw[verify_3 h1 h2]at h⊢;exact owned_eq _ _ h
  ·rw[verify_2 h1 h2]at h;exact absurd h h2
 ·rw[verify_1 h1]at h;exact absurd h h1
theorem verify_iff{M:Mdl}:verify M= .ok↔Right M:=⟨fun h=>verify_ok.1 (by rw[h];rfl),fun h=>verify_eq (verify_ok.2 h)⟩
abbrev uAt(M:Mdl)(k:Int):Unt:=M.units.getD k.toNat default
structure AlikeM(M M':Mdl):Prop where
 nun:M.units.length≤M'.units.length
 nbx:M.boxes.length≤M'.boxes.length
 units:∀k:Int,0≤k→k<(M.units.length:Int)→(uAt M k).kind=2∨(uAt M k).kind=3→(uAt M' k).kind=(uAt M k).kind∧(uAt M' k).locals=(uAt M k).locals∧(uAt M' k).params=(uAt M k).params∧(uAt M' k).result=(uAt M k).result∧(uAt M' k).takes=(uAt M k).takes
 boxes:∀k,k<M.boxes.length→M'.boxes.getD k default=M.boxes.getD k default
structure AlikeU(u u':Unt):Prop where
 kind:u'.kind=u.kind
 params:u'.params=u.params
 locals:u'.locals=u.locals
 result:u'.result=u.result
 takes:u'.takes=u.takes
 len:u.code.length≤u'.code.length
 ins:∀p:Int,0≤p→p<(u.code.length:Int)→ins u' p=ins u p
section
variable{M M':Mdl}(hM:AlikeM M M'){u u':Unt}(hU:AlikeU u u')
include hM
end
section
variable{M M':Mdl}(hM:AlikeM M M'){u u':Unt}(hU:AlikeU u u')
include hM hU
end
def key(c:List Ins):List Ins:=c.filter fun i=>decide (i.op=23)||decide (i.op=29)||decide (i.op=26)||decide (i.op=27)
def sm:Unt:=⟨4,0,[],0,0,[⟨1,0,1⟩,⟨28,0,0⟩,⟨25,0,0⟩]⟩
structure Left(M M':Mdl):Prop where
 nun:M.units.length≤M'.units.length
 nbx:M.boxes.length≤M'.boxes.length
 boxes:∀k,k<M.boxes.length→M'.boxes.getD k default=M.boxes.getD k default
 bx:∀b∈M'.boxes,plain b.1=true∧1≤b.2∧b.2≤20
 few:M'.boxes.length≤30∧M'.units.length≤30
 units:∀k:Nat,k<M'.units.length→(k<M.units.length∧AlikeU (uAt M k) (uAt M' k)∧key (uAt M' k).code=key (uAt M k).code∧(uAt M' k).code.length≤4000∧∀i∈(uAt M' k).code,i∈(uAt M k).code∨i.op=5∨i.op=7)∨(uAt M' k=sm∧(k<M.units.length→(uAt M k).kind=4))
theorem uAt_mem{M:Mdl}{k:Nat}(h:k<M.units.length):uAt M k∈M.units:=by
 show M.units.getD k default∈_;rw[Jd,Je h];exact List.getElem_mem _
section
variable{M M':Mdl}(hF:FormOk M)(hL:Left M M')
include hF
theorem insOk{k:Nat}(hk:k<M.units.length):∀i∈(uAt M k).code,InsOk M (uAt M k) i:=fun i hi=>instr_ok ((hF.units _ (uAt_mem hk)).2 i hi)
theorem callsOk:∀k,k<M.units.length→∀i∈(M.units.getD k default).code,i.op=23∨i.op=29→0≤i.a∧i.a<(M.units.length:Int):=by
 intro k hk i hi ho;have h:=insOk hF hk i hi;rcases ho with ho|ho
 ·obtain⟨h1,h2, -⟩:=unit_eq (h.call ho);exact⟨h1,h2⟩
 ·obtain⟨h1,h2, -⟩:=unit_eq (h.start ho);exact⟨h1,h2⟩
theorem uses_far{op b:Int}(ho:op=26∨op=27)(hb:(M.boxes.length:Int)≤b){k:Nat}(hk:k<M.units.length):uses M op b k=false:=by
 cases h:uses M op b k with
 |false=>rfl
 |true=>
  unfold uses at h;rw[List.any_eq_true]at h;obtain⟨x,x1,x2⟩:=h;rw[List.any_eq_true]at x2;obtain⟨i,i1,i2⟩:=x2;have hx:=(reachRun_once (callsOk hF) (M.units.length+1) 0 [(k:Int)] (Once.one hk)).ok x x1;have:=(insOk hF (k:=x.toNat) (by omega) i i1).box;rw[JX,JV,JV]at i2;have:=this (by omega);omega
include hL
end
def longer(u:Unt):Unt:={u with code:=u.code ++[⟨7,0,0⟩,⟨5,0,0⟩]}
end Go.Proofs.YtjehflelkpacfaaGreat.Ver
