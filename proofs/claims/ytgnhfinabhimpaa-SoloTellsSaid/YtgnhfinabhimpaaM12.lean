/- A right module's task keeps what is known: calls, returns, generators. Plain Lean. -/
import Derived.Test.YtgnhfinabhimpaaM11
set_option linter.unusedVariables false
set_option linter.unusedSimpArgs false
set_option linter.unusedSectionVars false
set_option maxRecDepth 100000
namespace Go.Proofs.Ytgnhfinabhimpaa.Vm
open ImgM Ver Opt
theorem head_facts{M:Mdl}{u:Unt}(h:Ver.head M u=0):u.params.toNat≤u.locals.length∧u.locals.length≤200∧(u.kind=3→plain u.result=true∧plain u.takes=true):=by
 unfold Ver.head at h
 by_cases e1:u.kind≠2∧u.kind≠3∧u.kind≠4
 ·rw[if_pos e1]at h;cases h
 rw[if_neg e1]at h
 by_cases e2:200<u.locals.length∨u.params<0∨6<u.params∨(u.locals.length:Int)<u.params∨(u.kind=4∧0<u.params)
 ·rw[if_pos e2]at h;cases h
 rw[if_neg e2]at h
 by_cases e3:u.code.length<1∨4000<u.code.length
 ·rw[if_pos e3]at h;cases h
 rw[if_neg e3]at h
 by_cases e4:(u.kind≠4∧plain u.result=false)∨(u.kind=3∧plain u.takes=false)
 ·rw[if_pos e4]at h;cases h
 refine⟨by omega,by omega,fun hk=>⟨?_,?_⟩⟩
 ·cases hp:plain u.result with
  |true=>rfl
  |false=>exact absurd (.inl ⟨by omega,hp⟩) e4
 ·cases hp:plain u.takes with
  |true=>rfl
  |false=>exact absurd (.inr ⟨hk,hp⟩) e4
theorem unt_head{M:Mdl}{T:Nat→Int→Option Shape}(hC:Certs M T){k:Nat}(hk:k<M.units.length):Ver.head M (unt M k)=0:=by
 have hu:unt M k∈M.units:=by
  unfold unt;rw[List.getD_eq_getElem?_getD,List.getElem?_eq_getElem hk];exact List.getElem_mem _
 exact(hC.form.units _ hu).1
theorem plain_vOk{gs:List Nat}{t:Int}(h:plain t=true):vOk gs t 0:=by
 unfold plain at h;rw[Bool.or_eq_true,decide_eq_true_eq,decide_eq_true_eq]at h;exact⟨by unfold In64;omega,fun _=> .inl rfl,fun h=>by omega⟩
theorem has0_at{u:Unt}{j:Nat}(h:(Ver.has0 u).getD j false=true):j<u.params.toNat:=by
 unfold Ver.has0 at h;refine Nat.lt_of_not_le fun hle=>?_
 rw[List.getD_eq_getElem?_getD,List.getElem?_append_right (by simp;omega)]at h;simp at h
 cases hx:(List.replicate (u.locals.length-u.params.toNat) false)[j-u.params.toNat]? with
 |none=>rw[hx]at h;cases h
 |some b=>
  rw[hx]at h;have:=List.eq_of_mem_replicate (List.mem_of_getElem? hx);subst this
  cases h
theorem start_seg{M:Mdl}{T:Nat→Int→Option Shape}(hC:Certs M T){gs:List Nat}{k:Nat}(hk:k<M.units.length){a:List Int}(ha:Typs gs ((unt M k).locals.take (unt M k).params.toNat) a){ws:List Int}(hw:ws.length=(unt M k).locals.length)(hp:∀j,j<(unt M k).params.toNat→ws.getD j 0=a.getD j 0)(h64:∀v∈ws,In64 v):Seg M T gs k 0 ws []:=by
 obtain⟨h0,h1,h2⟩:=(hC.cert k hk).start;have hh:=head_facts (unt_head hC hk);refine⟨hk,[],h0,ws,[],by simpa using h1,by simp,⟨hw,fun j hj hx=>?_,h64⟩, .nil⟩;have hjp:=has0_at (h2.2 j hx);rw[hp j hjp];have key:∀{ts xs:List Int},Typs gs ts xs→∀j,j<ts.length→vOk gs (ts.getD j 0) (xs.getD j 0):=by
  intro ts xs h
  induction h with
  |nil=>intro j hj;simp at hj
  |cons g1 _ ih=>
   intro j hj
   cases j with
   |zero=>exact g1
   |succ j=>exact ih j (by simpa using hj)
 have:=key ha j (by simp;omega);rw[List.getD_eq_getElem?_getD,List.getElem?_take,if_pos hjp,←List.getD_eq_getElem?_getD]at this;exact this
theorem Stk.got{M:Mdl}{T:Nat→Int→Option Shape}{gs:List Nat}{fs:List Fr}{ws:List Int}{ty v:Int}(h:Stk M T gs fs ws [ty])(hv:vOk gs ty v):Stk M T gs fs (ws ++[v]) []:=by
 obtain⟨fs0,ws0,q,p,seg,e1,e2,⟨hq,st,hh,loc,op,g1,g2,g3,g4⟩,hu⟩:=h.view;rw[e1,e2,g2];have e:ws0 ++(loc ++op) ++[v]=ws0 ++(loc ++(op ++[v])):=by simp
 rw[e];exact hu.stk ⟨hq,st ++[ty],hh,loc,op ++[v],by simpa using g1,rfl,g3,g4.app (Typs.one hv)⟩
section
variable{M:Mdl}{T:Nat→Int→Option Shape}{t:Tk}{ch:List Nat}{fs0:List Fr}{ws0:List Int}{q p:Nat}{st:List Int}{hh:List Bool}{loc op:List Int}{i:Ins}{st':List Int}{h':List Bool}
variable{ν:Type}{V:Env ν}{K:ν→Prop}(hC:Certs M T)(hV:EnvOk V M K)(hok:Ok M T t ch)(a:At M T t fs0 ws0 q p st hh loc op)(hr:Here M T q p i st hh st' h'){s:ν}(hK:K s)
theorem pushN_5(hV:EnvOk V M K):∀(n:Nat) (r:Tk×ν),r.1.st=5→K r.2→(pushN V n r).1.st=5∧K (pushN V n r).2
 |0,r,h,hK=>⟨h,hK⟩
 |n+1,r,h,hK=>by
  unfold pushN;have:(push V 0 r).1.st=5∧K (push V 0 r).2:=by
   unfold push
   split
   ·unfold trap;rw[if_pos h];exact⟨h,hK⟩
   ·exact⟨h,hK⟩
  exact pushN_5 hV n _ this.1 this.2
theorem pushN_res(hV:EnvOk V M K){t:Tk}(hn:t.now<t.cs.length){s:ν}(hK:K s):∀(n:Nat) (c:Co),c.ws.length≤400→((pushN V n (setCur t c,s)).1.st=5∧K (pushN V n (setCur t c,s)).2)∨(c.ws.length+n≤400∧pushN V n (setCur t c,s)=(setCur t {c with ws:=c.ws ++List.replicate n 0},s))
 |0,c,hl=> .inr ⟨hl,by unfold pushN;simp⟩
 |n+1,c,hl=>by
  unfold pushN
  by_cases h:c.ws.length=400
  ·left
   have e:push V 0 (setCur t c,s)=trap V 4 (setCur t c,s):=by unfold push;simp only[cur_set hn];rw[if_pos h]
   rw[e];have ht:(trap V 4 (setCur t c,s)).1.st=5∧K (trap V 4 (setCur t c,s)).2:=by
    unfold trap
    split
    ·rename_i h5;exact⟨h5,hK⟩
    ·exact⟨rfl,hV.tell _ _ hK⟩
   exact pushN_5 hV n _ ht.1 ht.2
  ·have e:push V 0 (setCur t c,s)=(setCur t {c with ws:=c.ws ++[0]},s):=by
    unfold push;simp only[cur_set hn,set_set];rw[if_neg h]
   rw[e];rcases pushN_res hV hn hK n {c with ws:=c.ws ++[0]} (by simp;omega)with g|⟨g1,g2⟩
   ·exact .inl g
   ·refine .inr ⟨by simp at g1;omega,?_⟩;rw[g2];congr 2;simp[List.replicate_succ]
include hC hV hok a hr hK
theorem exec_call(ho:i.op=23):Res M T K (exec V M i (setPc (p+1) t,s)):=by
 have hn:=hok.nowlt;rw[a.pc];have hwl:=wslen hok a;obtain⟨k0,k1,k2⟩:=unit_eq (hr.ok.call ho);have hk:i.a.toNat<M.units.length:=by omega
 have hkk:(unt M i.a.toNat).kind=2:=k2;have hhf:=head_facts (unt_head hC hk);have hon:=on hok a hr (by omega) (by omega) (by omega);have hlens:=(hok.lens _ hn).2;rw[←cur_co,a.fr]at hlens;unfold exec;rw[if_neg (by omega),if_neg (by omega),if_neg (by omega),if_neg (by omega),if_neg (by omega),if_neg (by omega),if_neg (by omega),if_neg (by omega),if_neg (by omega),if_neg (by omega),if_neg (by omega),if_neg (by omega),if_neg (by omega),if_pos ho]
 cases hr.does with
 |call s1 h1 hi=>
  obtain⟨op1,ar,e1,g1,g2⟩:=a.op.split;have harl:ar.length=(unt M i.a.toNat).params.toNat:=by
   have:=g2.len;rw[←this];show((unt M i.a.toNat).locals.take (unt M i.a.toNat).params.toNat).length=_;simp;omega
  unfold callU;simp only[cur_set hn,set_set]
  split
  ·exact trap_res hV hK
  ·rename_i h40
   have hfr:(thr (cur t) fs0 ⟨q,p+1,ws0.length⟩ (ws0 ++(loc ++op))).fr=fs0 ++[⟨q,p+1,ws0.length⟩]:=rfl;have hws:(thr (cur t) fs0 ⟨q,p+1,ws0.length⟩ (ws0 ++(loc ++op))).ws=(ws0 ++(loc ++op1)) ++ar:=by
    show ws0 ++(loc ++op)=_;rw[e1];simp
   have hbase:(thr (cur t) fs0 ⟨q,p+1,ws0.length⟩ (ws0 ++(loc ++op))).ws.length-(unt M i.a.toNat).params.toNat=(ws0 ++(loc ++op1)).length:=by rw[hws,List.length_append,harl];omega
   rw[hbase];have hlen:(ws0 ++(loc ++op)).length≤400:=by simp;omega
   rcases pushN_res hV hn hK ((unt M i.a.toNat).locals.length-(unt M i.a.toNat).params.toNat) {thr (cur t) fs0 ⟨q,p+1,ws0.length⟩ (ws0 ++(loc ++op))with fr:=(fs0 ++[⟨q,p+1,ws0.length⟩]) ++[⟨i.a.toNat,0,(ws0 ++(loc ++op1)).length⟩]} hlen with g|⟨g3,g4⟩
   ·exact⟨.inl g.1,g.2⟩
   ·rw[show({thr (cur t) fs0 ⟨q,p+1,ws0.length⟩ (ws0 ++(loc ++op))with fr:=(thr (cur t) fs0 ⟨q,p+1,ws0.length⟩ (ws0 ++(loc ++op))).fr ++[⟨i.a.toNat,0,(ws0 ++(loc ++op1)).length⟩]}:Co)={thr (cur t) fs0 ⟨q,p+1,ws0.length⟩ (ws0 ++(loc ++op))with fr:=(fs0 ++[⟨q,p+1,ws0.length⟩]) ++[⟨i.a.toNat,0,(ws0 ++(loc ++op1)).length⟩]}from rfl,g4];refine⟨.inr (.inr ⟨ch,hok.put rfl rfl ?_ ?_ ⟨?_,?_⟩⟩),hK⟩
    ·show bot ((fs0 ++[_]) ++[_])=bot (cur t).fr;rw[bot_app _ _ (by simp),a.fr];exact bot_snoc _ _ _ rfl
    ·have e2:({thr (cur t) fs0 ⟨q,p+1,ws0.length⟩ (ws0 ++(loc ++op))with fr:=(fs0 ++[⟨q,p+1,ws0.length⟩]) ++[⟨i.a.toNat,0,(ws0 ++(loc ++op1)).length⟩]}:Co).ws ++List.replicate ((unt M i.a.toNat).locals.length-(unt M i.a.toNat).params.toNat) 0=(ws0 ++(loc ++op1)) ++(ar ++List.replicate ((unt M i.a.toNat).locals.length-(unt M i.a.toNat).params.toNat) 0):=by
      show(thr (cur t) fs0 ⟨q,p+1,ws0.length⟩ (ws0 ++(loc ++op))).ws ++_=_;rw[hws];simp
     show Stk M T (gsOf t) ((fs0 ++[_]) ++[_]) (_ ++List.replicate _ 0) [];rw[e2];obtain⟨h2,t1,t2⟩:=hon;refine .more (a.under.stk ⟨a.hq,s1,h2,loc,op1,t1,rfl,a.loc.le t2,g1⟩) hkk (start_seg hC hk g2 (by simp[harl];omega) (fun j hj=>?_) (fun v hv=>?_))
     ·rw[List.getD_eq_getElem?_getD,List.getElem?_append_left (by omega),List.getD_eq_getElem?_getD]
     ·rcases List.mem_append.1 hv with hv|hv
      ·exact g2.in64 v hv
      ·rw[List.eq_of_mem_replicate hv];unfold In64;omega
    ·show(_ ++List.replicate _ 0).length≤400;rw[List.length_append,List.length_replicate];exact g3
    ·show((fs0 ++[_]) ++[_]).length≤40;rw[hfr]at h40;simp at hlens h40⊢;omega
 |_=>exfalso;omega
theorem exec_ret(ho:i.op=24):Res M T K (exec V M i (setPc (p+1) t,s)):=by
 have hn:=hok.nowlt;rw[a.pc];have hwl:=wslen hok a;unfold exec;rw[if_neg (by omega),if_neg (by omega),if_neg (by omega),if_neg (by omega),if_neg (by omega),if_neg (by omega),if_neg (by omega),if_neg (by omega),if_neg (by omega),if_neg (by omega),if_neg (by omega),if_neg (by omega),if_neg (by omega),if_neg (by omega),if_pos ho];have hkd:=hok.kinds _ hn;rw[←cur_co,a.fr]at hkd;have hlens:=(hok.lens _ hn).2;rw[←cur_co,a.fr]at hlens
 cases hr.does with
 |ret h1 hi hk2=>
  obtain⟨v,e1,hv⟩:=a.op.un1;rcases a.under with⟨u1,u2⟩|⟨u1,u2⟩
  ·subst u1;have hb:bot ([] ++[(⟨q,p,ws0.length⟩:Fr)])=q:=rfl;rw[hb,hk2]at hkd
   exfalso
   split at hkd<;>omega
  ·have hl:=last_set (c:=thr (cur t) fs0 ⟨q,p+1,ws0.length⟩ (ws0 ++(loc ++op))) (w:=ws0 ++loc) (v:=v) hn (by show ws0 ++(loc ++op)=_;rw[e1];simp);unfold ret;simp only[hl,cur_set hn,set_set,topF_thr];have hfs:(thr (cur t) fs0 ⟨q,p+1,ws0.length⟩ (ws0 ++(loc ++op))).fr.take ((thr (cur t) fs0 ⟨q,p+1,ws0.length⟩ (ws0 ++(loc ++op))).fr.length-1)=fs0:=by
    show(fs0 ++[_]).take ((fs0 ++[_]).length-1)=fs0;simp
   have hws:((thr (cur t) fs0 ⟨q,p+1,ws0.length⟩ (ws0 ++(loc ++op))).ws.take ((thr (cur t) fs0 ⟨q,p+1,ws0.length⟩ (ws0 ++(loc ++op))).ws.length-1)).take ws0.length=ws0:=by
    show((ws0 ++(loc ++op)).take ((ws0 ++(loc ++op)).length-1)).take ws0.length=ws0;rw[List.take_take,Nat.min_eq_left (by rw[e1];simp)];simp
   rw[hfs,hws];have hne:fs0≠[]:=fun h=>by
    subst h;obtain⟨f1,w1,q1,p1,sg,x1, -⟩:=u1.view;simp at x1
   refine push_res hV hn hK (fun hlt=>⟨ch,hok.put rfl rfl ?_ (u1.got hv) ⟨hlt' hlt,?_⟩⟩) ?_
   ·show bot fs0=bot (cur t).fr;rw[a.fr,bot_app _ _ hne]
   ·show fs0.length≤40;simp at hlens;omega
   ·show ws0.length≤400;omega
 |_=>exfalso;omega
where hlt' {ws:List Int} {v:Int} (h:ws.length+1≤400):(ws ++[v]).length≤400:=by simpa using h
end
section
variable{M:Mdl}{T:Nat→Int→Option Shape}{t:Tk}{ch:List Nat}{fs0:List Fr}{ws0:List Int}{q p:Nat}{st:List Int}{hh:List Bool}{loc op:List Int}{i:Ins}{st':List Int}{h':List Bool}
theorem Ok.ne1(h:Ok M T t ch){j:Nat}(hj:ch[1]?=some j):t.now≠j:=fun e=>by
 subst e;have:=nodup_at h.nodup h.now hj;omega
theorem Ok.back(h:Ok M T t ch){j:Nat}(hj:ch[1]?=some j){c:Co}(hst:c.st=3∨c.st=1)(hb:bot c.fr=bot (cur t).fr)(hlen:c.ws.length≤400∧c.fr.length≤40)
  (hheld:c.st=1→Stk M T (gsOf t) c.fr c.ws [(unt M (bot c.fr)).takes]) {v:Int} (hv:vOk (gsOf t) (unt M (bot (cur t).fr)).result v) (hl:(co t j).ws.length+1≤400):
  Ok M T (setCur {setCur t c with now:=j} {co t j with ws:=(co t j).ws ++[v]}) ch.tail:=by
 have hn:=h.nowlt;have hne:=h.ne1 hj;have hjl:j<t.cs.length:=h.mem _ (List.mem_of_getElem? hj);have hw:=h.wait 0 t.now j h.now hj;rw[←cur_co]at hw;have ht:∀i:Nat,ch.tail[i]?=ch[i+1]?:=fun i=>by rw[List.getElem?_tail]
 have hch:ch=t.now::ch.tail:=by
  cases ch with
  |nil=>have:=h.now;simp at this
  |cons x r=>have:=h.now;simp at this;simp[this]
 have hnd:=h.nodup;rw[hch,List.nodup_cons]at hnd;have hg1:gsOf (setCur t c)=gsOf t:=gsOf_setC hn hb;obtain⟨t1,e1⟩:∃t1:Tk,t1={setCur t c with now:=j}:=⟨_,rfl⟩;have hl1:t1.cs.length=t.cs.length:=by rw[e1];exact set_len t c
 have hn1:t1.now=j:=by rw[e1]
 have hgs1:gsOf t1=gsOf t:=by rw[e1];exact hg1
 have hco1:∀k,co t1 k=if t.now=k then c else co t k:=fun k=>by rw[e1];exact co_setC hn
 rw[←e1];obtain⟨c2,e2⟩:∃c2:Co,c2={co t j with ws:=(co t j).ws ++[v]}:=⟨_,rfl⟩;rw[←e2];have hbot2:bot c2.fr=bot (co t1 t1.now).fr:=by rw[hn1,hco1,if_neg hne,e2]
 have hn1l:t1.now<t1.cs.length:=by rw[hl1,hn1];exact hjl
 have hg2:gsOf (setCur t1 c2)=gsOf t:=by rw[←hgs1];exact gsOf_setC hn1l hbot2
 have hl2:(setCur t1 c2).cs.length=t.cs.length:=by rw[set_len,hl1]
 have hco:∀k,co (setCur t1 c2) k=if j=k then c2 else if t.now=k then c else co t k:=fun k=>by
  show co (setC t1 t1.now c2) k=_;rw[co_setC hn1l,hn1,hco1]
 have hnowc:(setCur t1 c2).now=j:=hn1;have hother:∀k,j≠k→t.now≠k→co (setCur t1 c2) k=co t k:=fun k a b=>by rw[hco,if_neg a,if_neg b]
 have hatj:co (setCur t1 c2) j=c2:=by rw[hco,if_pos rfl]
 have hatn:co (setCur t1 c2) t.now=c:=by rw[hco,if_neg (Ne.symm hne),if_pos rfl]
 have hc2:c2.st=(co t j).st∧c2.up=(co t j).up∧c2.fr=(co t j).fr:=by rw[e2];exact⟨rfl,rfl,rfl⟩
 have hmemj:j∈ch:=List.mem_of_getElem? hj;have hstj:(co t j).st=2:=(h.going j hjl).2 hmemj;have hb':∀k,bot (co (setCur t1 c2) k).fr=bot (co t k).fr:=fun k=>by
  rw[hco]
  split
  ·rename_i e;subst e;rw[hc2.2.2]
  ·split
   ·rename_i e;subst e;exact hb
   ·rfl
 have htm:∀k,k∈ch.tail→k∈ch∧t.now≠k:=fun k hk=>⟨List.mem_of_mem_tail hk,fun e=>by subst e;exact hnd.1 hk⟩
 refine⟨?_,by rw[hl2];exact h.few,hnd.2,fun k hk=>by rw[hl2];exact h.mem k (htm k hk).1,fun k hk=>?_,fun i k hk=>?_,fun i k hk h0=>?_,?_,fun i d k hd hk=>?_,fun k hk h0=>?_,fun k hk h1=>?_,fun k hk=>?_,fun k hk=>?_,fun k hk=>?_⟩
 ·rw[ht,hnowc];exact hj
 ·rw[hl2]at hk
  by_cases hkj:j=k
  ·subst hkj;rw[hatj,hc2.1];exact⟨fun _=>by rw[hch]at hmemj;rcases List.mem_cons.1 hmemj with e|e;exact absurd e.symm hne;exact e,fun _=>hstj⟩
  ·by_cases hkn:t.now=k
   ·subst hkn;rw[hatn];exact⟨fun e=>by omega,fun e=>absurd e hnd.1⟩
   ·rw[hother k hkj hkn,h.going k hk];exact⟨fun e=>by rw[hch]at e;rcases List.mem_cons.1 e with e|e;exact absurd e.symm hkn;exact e,fun e=>(htm k e).1⟩
 ·rw[ht]at hk;have hm:=htm k (by rw[←ht]at hk;exact List.mem_of_getElem? hk);have hup:(co (setCur t1 c2) k).up=(co t k).up:=by
   by_cases hkj:j=k
   ·subst hkj;rw[hatj,hc2.2.1]
   ·rw[hother k hkj hm.2]
  rw[hup,ht];exact h.chain (i+1) k hk
 ·rw[ht]at hk h0;exact h.root (i+1) k hk h0
 ·rw[hg2,cur_co,hnowc,hatj,e2];exact hw.got hv
 ·rw[ht]at hd hk;have hkj:j≠k:=fun e=>by
   subst e;have:=nodup_at h.nodup hj hk;omega
  have hm:=htm k (by rw[←ht]at hk;exact List.mem_of_getElem? hk);rw[hg2,hb',hother k hkj hm.2];exact h.wait (i+1) d k hd hk
 ·rw[hl2]at hk
  by_cases hkj:j=k
  ·subst hkj;rw[hatj,hc2.1]at h0;omega
  ·by_cases hkn:t.now=k
   ·subst hkn;rw[hatn]at h0;omega
   ·rw[hother k hkj hkn]at h0⊢;rw[hg2];exact h.fresh k hk h0
 ·rw[hl2]at hk
  by_cases hkj:j=k
  ·subst hkj;rw[hatj,hc2.1]at h1;omega
  ·by_cases hkn:t.now=k
   ·subst hkn;rw[hatn]at h1⊢;rw[hg2];exact hheld h1
   ·rw[hother k hkj hkn]at h1⊢;rw[hg2];exact h.held k hk h1
 ·rw[hl2]at hk;rw[hco]
  split
  ·rename_i e;subst e
   rw[e2];exact⟨by simpa using hl,(h.lens _ hk).2⟩
  ·split
   ·exact hlen
   ·exact h.lens k hk
 ·rw[hl2]at hk;rw[hb'];exact h.kinds k hk
 ·rw[hl2]at hk;rw[hco]
  split
  ·rw[hc2.1,hstj];omega
  ·split
   ·omega
   ·exact h.sts k hk
theorem Ok.into(h:Ok M T t ch){k:Nat}(hk:k<t.cs.length)(hk2:(co t k).st=0∨(co t k).st=1){c:Co}(hst:c.st=(cur t).st)(hup:c.up=(cur t).up)(hb:bot c.fr=bot (cur t).fr)(hlen:c.ws.length≤400∧c.fr.length≤40)
  (hs:Stk M T (gsOf t) c.fr c.ws [(unt M (bot (co t k).fr)).result]) {ws:List Int} (htop:Stk M T (gsOf t) (co t k).fr ws []) (hwl:ws.length≤400):
  Ok M T {setC (setCur t c) k {co t k with st:=2,up:=some t.now,ws:=ws}with now:=k} (k::ch):=by
 have hn:=h.nowlt;have hin:t.now∈ch:=List.mem_of_getElem? h.now;have hst2:(cur t).st=2:=(h.going _ hn).2 hin;have hknow:t.now≠k:=fun e=>by subst e;rw[←cur_co]at hk2;omega
 have hkch:k∉ch:=fun hm=>by have:=(h.going k hk).2 hm;omega
 obtain⟨c2,e2⟩:∃c2:Co,c2={co t k with st:=2,up:=some t.now,ws:=ws}:=⟨_,rfl⟩;rw[←e2];obtain⟨t2,et⟩:∃t2:Tk,t2={setC (setCur t c) k c2 with now:=k}:=⟨_,rfl⟩;rw[←et];have hk':k<(setCur t c).cs.length:=by rw[set_len];exact hk
 have hl2:t2.cs.length=t.cs.length:=by rw[et];show(setC _ _ _).cs.length=_;rw[setC_len,set_len]
 have hco:∀j,co t2 j=if k=j then c2 else if t.now=j then c else co t j:=fun j=>by
  rw[et];show co (setC (setCur t c) k c2) j=_;rw[co_setC hk']
  split
  ·rfl
  ·exact co_setC hn
 have hb2:bot c2.fr=bot (co t k).fr:=by rw[e2]
 have hb':∀j,bot (co t2 j).fr=bot (co t j).fr:=fun j=>by
  rw[hco]
  split
  ·rename_i e;subst e;exact hb2
  ·split
   ·rename_i e;subst e;exact hb
   ·rfl
 have hg:gsOf t2=gsOf t:=by
  rw[et];show gsOf (setC (setCur t c) k c2)=_;rw[gsOf_setC hk' (by rw[hb2];show _=bot (co (setC t t.now c) k).fr;rw[co_setC hn,if_neg hknow])];exact gsOf_setC hn hb
 have hatk:co t2 k=c2:=by rw[hco,if_pos rfl]
 have hatn:co t2 t.now=c:=by rw[hco,if_neg (Ne.symm hknow),if_pos rfl]
 have hother:∀j,k≠j→t.now≠j→co t2 j=co t j:=fun j a b=>by rw[hco,if_neg a,if_neg b]
 have hst':∀j,k≠j→(co t2 j).st=(co t j).st:=fun j a=>by
  rw[hco,if_neg a]
  split
  ·rename_i e;subst e;exact hst
  ·rfl
 have hup':∀j,k≠j→(co t2 j).up=(co t j).up:=fun j a=>by
  rw[hco,if_neg a]
  split
  ·rename_i e;subst e;exact hup
  ·rfl
 have hnow2:t2.now=k:=by rw[et]
 have hc2:c2.st=2∧c2.up=some t.now∧c2.ws=ws∧c2.fr=(co t k).fr:=by rw[e2];exact⟨rfl,rfl,rfl,rfl⟩
 refine⟨by rw[hnow2];rfl,by rw[hl2];exact h.few,List.nodup_cons.2 ⟨hkch,h.nodup⟩,fun j hj=>?_,fun j hj=>?_,fun i j hj=>?_,fun i j hj h0=>?_,?_,fun i d j hd hj=>?_,fun j hj h0=>?_,fun j hj h1=>?_,fun j hj=>?_,fun j hj=>?_,fun j hj=>?_⟩
 ·rw[hl2];rcases List.mem_cons.1 hj with rfl|hj;exact hk;exact h.mem j hj
 ·rw[hl2]at hj
  by_cases hkj:k=j
  ·subst hkj;rw[hatk,hc2.1];exact⟨fun _=>List.mem_cons_self,fun _=>rfl⟩
  ·rw[hst' j hkj,h.going j hj];exact⟨fun e=>List.mem_cons_of_mem _ e,fun e=>by rcases List.mem_cons.1 e with e|e;exact absurd e.symm hkj;exact e⟩
 ·cases i with
  |zero=>
   simp at hj;subst hj;rw[hatk,hc2.2.1];show some t.now=ch[0]?;exact h.now.symm
  |succ i=>
   have hj':ch[i]?=some j:=by simpa using hj
   have hkj:k≠j:=fun e=>by subst e;exact hkch (List.mem_of_getElem? hj')
   rw[hup' j hkj];show _=ch[i+1]?;exact h.chain i j hj'
 ·cases i with
  |zero=>
   have h0':ch[0]?=none:=by simpa using h0
   rw[h.now]at h0';cases h0'
  |succ i=>
   exact h.root i j (by simpa using hj) (by simpa using h0)
 ·rw[hg,cur_co,hnow2,hatk,hc2.2.2.1,hc2.2.2.2];exact htop
 ·cases i with
  |zero=>
   simp at hd;subst hd;have hj':ch[0]?=some j:=by simpa using hj
   rw[h.now]at hj';simp at hj';subst hj';rw[hg,hb',hatn];exact hs
  |succ i=>
   have hd':ch[i]?=some d:=by simpa using hd
   have hj':ch[i+1]?=some j:=by simpa using hj
   have hkj:k≠j:=fun e=>by subst e;exact hkch (List.mem_of_getElem? hj')
   have hnj:t.now≠j:=fun e=>by
    subst e;have:=nodup_at h.nodup h.now hj';omega
   rw[hg,hb',hother j hkj hnj];exact h.wait i d j hd' hj'
 ·rw[hl2]at hj
  by_cases hkj:k=j
  ·subst hkj;rw[hatk,hc2.1]at h0;omega
  ·rw[hst' j hkj]at h0;have hnj:t.now≠j:=fun e=>by subst e;rw[←cur_co]at h0;omega
   rw[hg,hother j hkj hnj];exact h.fresh j hj h0
 ·rw[hl2]at hj
  by_cases hkj:k=j
  ·subst hkj;rw[hatk,hc2.1]at h1;omega
  ·rw[hst' j hkj]at h1;have hnj:t.now≠j:=fun e=>by subst e;rw[←cur_co]at h1;omega
   rw[hg,hother j hkj hnj];exact h.held j hj h1
 ·rw[hl2]at hj;rw[hco]
  split
  ·rename_i e;subst e
   rw[hc2.2.2.1,hc2.2.2.2];exact⟨hwl,(h.lens _ hj).2⟩
  ·split
   ·exact hlen
   ·exact h.lens j hj
 ·rw[hl2]at hj;rw[hb'];exact h.kinds j hj
 ·rw[hl2]at hj
  by_cases hkj:k=j
  ·subst hkj;rw[hatk,hc2.1];omega
  ·rw[hst' j hkj];exact h.sts j hj
theorem co_more{t:Tk}{c:Co}{k:Nat}(hk:k<t.cs.length):co {t with cs:=t.cs ++[c]} k=co t k:=by
 unfold co;simp only[List.getD_eq_getElem?_getD,List.getElem?_append_left hk]
theorem co_new{t:Tk}{c:Co}:co {t with cs:=t.cs ++[c]} t.cs.length=c:=by
 unfold co;simp
theorem gsOf_more{t:Tk}{c:Co}:gsOf {t with cs:=t.cs ++[c]}=gsOf t ++[bot c.fr]:=by unfold gsOf;simp
theorem Ok.more(h:Ok M T t ch){c:Co}(hf:t.cs.length≤30)(hst:c.st=0)(hs:Stk M T (gsOf t ++[bot c.fr]) c.fr c.ws [])(hl:c.ws.length≤400∧c.fr.length≤40)(hb:bot c.fr<M.units.length∧(unt M (bot c.fr)).kind=3):Ok M T {t with cs:=t.cs ++[c]} ch:=by
 have hlen:({t with cs:=t.cs ++[c]}:Tk).cs.length=t.cs.length+1:=by simp
 have hnow:=h.nowlt;have hcase:∀{k},k<t.cs.length+1→k<t.cs.length∨k=t.cs.length:=fun{k} hk=>by omega
 have hmk:∀{i k:Nat},ch[i]?=some k→k<t.cs.length:=fun h'=>h.mem _ (List.mem_of_getElem? h')
 refine⟨h.now,by rw[hlen];omega,h.nodup,fun k hk=>by rw[hlen];have:=h.mem k hk;omega,fun k hk=>?_,fun i k hk=>?_,h.root,?_,fun i d k hd hk=>?_,fun k hk h0=>?_,fun k hk h1=>?_,fun k hk=>?_,fun k hk=>?_,fun k hk=>?_⟩
 ·rw[hlen]at hk;rcases hcase hk with hk|rfl
  ·rw[co_more hk];exact h.going k hk
  ·rw[co_new,hst];exact⟨fun e=>by omega,fun e=>by have:=h.mem _ e;omega⟩
 ·rw[co_more (hmk hk)];exact h.chain i k hk
 ·rw[gsOf_more,cur_co,co_more hnow];exact h.top.grow
 ·rw[gsOf_more,co_more (hmk hk),co_more (hmk hd)];exact(h.wait i d k hd hk).grow
 ·rw[hlen]at hk;rcases hcase hk with hk|rfl
  ·rw[co_more hk]at h0⊢;rw[gsOf_more];exact(h.fresh k hk h0).grow
  ·rw[co_new,gsOf_more];exact hs
 ·rw[hlen]at hk;rcases hcase hk with hk|rfl
  ·rw[co_more hk]at h1⊢;rw[gsOf_more];exact(h.held k hk h1).grow
  ·rw[co_new]at h1;omega
 ·rw[hlen]at hk;rcases hcase hk with hk|rfl
  ·rw[co_more hk];exact h.lens k hk
  ·rw[co_new];exact hl
 ·rw[hlen]at hk;rcases hcase hk with hk|rfl
  ·rw[co_more hk];exact h.kinds k hk
  ·rw[co_new];refine⟨hb.1,?_⟩;rw[if_neg (by omega)];exact hb.2
 ·rw[hlen]at hk;rcases hcase hk with hk|rfl
  ·rw[co_more hk];exact h.sts k hk
  ·rw[co_new,hst];omega
end
section
variable{M:Mdl}{T:Nat→Int→Option Shape}{t:Tk}{ch:List Nat}{fs0:List Fr}{ws0:List Int}{q p:Nat}{st:List Int}{hh:List Bool}{loc op:List Int}{i:Ins}{st':List Int}{h':List Bool}
variable{ν:Type}{V:Env ν}{K:ν→Prop}(hC:Certs M T)(hV:EnvOk V M K)(hok:Ok M T t ch)(a:At M T t fs0 ws0 q p st hh loc op)(hr:Here M T q p i st hh st' h'){s:ν}(hK:K s)
include hok a
theorem alone(hk:(unt M q).kind≠2):fs0=[]∧ws0=[]:=by
 rcases a.under with h|⟨h,h2⟩
 ·exact h
 ·exact absurd h2 hk
theorem alone_bot(hk:(unt M q).kind≠2):bot (cur t).fr=q:=by
 obtain⟨rfl,rfl⟩:=alone hok a hk;rw[a.fr];rfl
theorem thr_lens{f:Fr}{ws:List Int}(h:ws.length≤400):(thr (cur t) fs0 f ws).ws.length≤400∧(thr (cur t) fs0 f ws).fr.length≤40:=by
 have:=(hok.lens _ hok.nowlt).2;rw[←cur_co,a.fr]at this;refine⟨h,?_⟩;show(fs0 ++[f]).length≤40;simpa using this
theorem thr_bot{pc:Nat}{ws:List Int}:bot (thr (cur t) fs0 ⟨q,pc,ws0.length⟩ ws).fr=bot (cur t).fr:=by
 rw[a.fr];exact bot_snoc _ _ _ rfl
include hC hV hr hK
theorem exec_end(ho:i.op=25):Res M T K (exec V M i (setPc (p+1) t,s)):=by
 have hn:=hok.nowlt;rw[a.pc];have hwl:=wslen hok a;unfold exec;rw[if_neg (by omega),if_neg (by omega),if_neg (by omega),if_neg (by omega),if_neg (by omega),if_neg (by omega),if_neg (by omega),if_neg (by omega),if_neg (by omega),if_neg (by omega),if_neg (by omega),if_neg (by omega),if_neg (by omega),if_neg (by omega),if_neg (by omega),if_pos ho];have hup:=hok.chain 0 t.now hok.now;rw[←cur_co]at hup;have hb0:=hok.kinds _ hn;rw[←cur_co]at hb0
 cases hr.does with
 |end_ h1 hi hk2=>
  have hbot:=alone_bot hok a hk2;have hbt:= @thr_bot M T t ch fs0 ws0 q p _ _ loc op hok a (p+1) (ws0 ++(loc ++op));have hln:=thr_lens hok a (f:=⟨q,p+1,ws0.length⟩) (ws:=ws0 ++(loc ++op)) (by simp;omega);unfold endU;simp only[cur_set hn,set_set];have e1:(thr (cur t) fs0 ⟨q,p+1,ws0.length⟩ (ws0 ++(loc ++op))).up=ch[1]?:=hup;rw[e1]
  cases hj:ch[1]? with
  |none=>exact⟨.inr (.inl rfl),hV.tell _ _ hK⟩
  |some j=>
   have hne:=hok.ne1 hj;have hjl:j<t.cs.length:=hok.mem _ (List.mem_of_getElem? hj);have hn0:t.now≠0:=fun e=>by
    have hx:∀n m:Nat,ch.length=n→ch[m]?=some 0→m+1=n∨m+1<n:=fun n m hl hm=>by have:=(List.getElem?_eq_some_iff.1 hm).1;omega
    obtain⟨m,hm1⟩:∃m,ch.length=m+1:=⟨ch.length-1,by have:=(List.getElem?_eq_some_iff.1 hj).1;omega⟩;have hlast:∃k,ch[m]?=some k:=⟨_,List.getElem?_eq_getElem (by omega)⟩;obtain⟨k,hk⟩:=hlast;have hz:=hok.root m k hk (List.getElem?_eq_none (by omega));subst hz;have:=hok.now;rw[e]at this;have:=nodup_at hok.nodup this hk;have:=(List.getElem?_eq_some_iff.1 hj).1;omega
   rw[if_neg hn0]at hb0;have hpl:=(head_facts (unt_head hC hb0.1)).2.2 hb0.2;simp only;unfold push;have hcur:cur {setCur t {thr (cur t) fs0 ⟨q,p+1,ws0.length⟩ (ws0 ++(loc ++op))with st:=3,up:=none}with now:=j}=co t j:=by
    show co (setC t t.now _) j=co t j;rw[co_setC hn,if_neg hne]
   simp only[hcur]
   split
   ·exact trap_res hV hK
   ·rename_i h4
    have hl4:=(hok.lens j hjl).1;refine⟨.inr (.inr ⟨ch.tail,?_⟩),hK⟩;exact hok.back hj (c:={thr (cur t) fs0 ⟨q,p+1,ws0.length⟩ (ws0 ++(loc ++op))with st:=3,up:=none}) (.inl rfl) hbt hln (fun h=>by cases h) (plain_vOk hpl.1) (by omega)
 |_=>exfalso;omega
theorem exec_yield(ho:i.op=31):Res M T K (exec V M i (setPc (p+1) t,s)):=by
 have hn:=hok.nowlt;rw[a.pc];have hwl:=wslen hok a;have hon:=on hok a hr (by omega) (by omega) (by omega);unfold exec;rw[if_neg (by omega),if_neg (by omega),if_neg (by omega),if_neg (by omega),if_neg (by omega),if_neg (by omega),if_neg (by omega),if_neg (by omega),if_neg (by omega),if_neg (by omega),if_neg (by omega),if_neg (by omega),if_neg (by omega),if_neg (by omega),if_neg (by omega),if_neg (by omega),if_neg (by omega),if_neg (by omega),if_pos ho];have hup:=hok.chain 0 t.now hok.now;rw[←cur_co]at hup;have hb0:=hok.kinds _ hn;rw[←cur_co]at hb0
 cases hr.does with
 |yield s1 h1 hi hk3=>
  have hk2:(unt M q).kind≠2:=by omega
  have hbot:=alone_bot hok a hk2;obtain⟨hf0,hw0⟩:=alone hok a hk2;have hn0:t.now≠0:=fun e=>by rw[hbot,if_pos e,hk3]at hb0;omega
  obtain⟨op1,v,e1,g1,g2⟩:∃op1 v,op=op1 ++[v]∧Typs (gsOf t) s1 op1∧vOk (gsOf t) (unt M q).result v:=by
   obtain⟨x,y,e1,g1,g2⟩:=a.op.split;obtain⟨v,rfl,hv⟩:=g2.un1;exact⟨x,v,e1,g1,hv⟩
  obtain⟨hl,hd⟩:=pop1 hC hok a hr ⟨q,p+1,ws0.length⟩ e1;obtain⟨j,hj⟩:∃j,ch[1]?=some j:=by
   cases hj:ch[1]? with
   |none=>exact absurd (hok.root 0 t.now hok.now hj) hn0
   |some j=>exact⟨j,rfl⟩
  have hne:=hok.ne1 hj;have hjl:j<t.cs.length:=hok.mem _ (List.mem_of_getElem? hj);have hbt:= @thr_bot M T t ch fs0 ws0 q p _ _ loc op hok a (p+1) (ws0 ++(loc ++op1));have hlen1:(ws0 ++(loc ++op1)).length≤400:=by rw[e1]at hwl;simp at hwl⊢;omega
  have hln:=thr_lens hok a (f:=⟨q,p+1,ws0.length⟩) (ws:=ws0 ++(loc ++op1)) hlen1;unfold yieldU;simp only[hl,hd,cur_set hn,set_set];have e2:(thr (cur t) fs0 ⟨q,p+1,ws0.length⟩ (ws0 ++(loc ++op1))).up.getD 0=j:=by
   show(cur t).up.getD 0=j;rw[hup,hj];rfl
  rw[e2];unfold push;have hcur:cur {setCur t {thr (cur t) fs0 ⟨q,p+1,ws0.length⟩ (ws0 ++(loc ++op1))with st:=1,up:=none}with now:=j}=co t j:=by
   show co (setC t t.now _) j=co t j;rw[co_setC hn,if_neg hne]
  simp only[hcur]
  split
  ·exact trap_res hV hK
  ·rename_i h4
   have hl4:=(hok.lens j hjl).1;refine⟨.inr (.inr ⟨ch.tail,?_⟩),hK⟩;refine hok.back hj (c:={thr (cur t) fs0 ⟨q,p+1,ws0.length⟩ (ws0 ++(loc ++op1))with st:=1,up:=none}) (.inr rfl) hbt hln (fun _=>?_) (by rw[hbot];exact g2) (by omega);show Stk M T (gsOf t) (fs0 ++[⟨q,p+1,ws0.length⟩]) (ws0 ++(loc ++op1)) [(unt M (bot (thr (cur t) fs0 ⟨q,p+1,ws0.length⟩ (ws0 ++(loc ++op1))).fr)).takes];rw[hbt,hbot];obtain⟨h2,t1,t2⟩:=hon;exact a.under.stk ⟨a.hq,s1,h2,loc,op1,t1,rfl,a.loc.le t2,g1⟩
 |_=>exfalso;omega
theorem exec_resume(ho:i.op=30):Res M T K (exec V M i (setPc (p+1) t,s)):=by
 have hn:=hok.nowlt;rw[a.pc];have hwl:=wslen hok a;have hon:=on hok a hr (by omega) (by omega) (by omega);unfold exec;rw[if_neg (by omega),if_neg (by omega),if_neg (by omega),if_neg (by omega),if_neg (by omega),if_neg (by omega),if_neg (by omega),if_neg (by omega),if_neg (by omega),if_neg (by omega),if_neg (by omega),if_neg (by omega),if_neg (by omega),if_neg (by omega),if_neg (by omega),if_neg (by omega),if_neg (by omega),if_pos ho]
 cases hr.does with
 |resume s1 h1 g hi hg=>
  obtain⟨op1,y,e1,g1,g2⟩:=a.op.split;obtain⟨x,y,rfl,hx,hy⟩:=g2.un2;obtain⟨l1,d1⟩:=pop1 hC hok a hr ⟨q,p+1,ws0.length⟩ (op1:=op1 ++[x]) (v:=y) (by rw[e1];simp);have hw2:(thr (cur t) fs0 ⟨q,p+1,ws0.length⟩ (ws0 ++(loc ++(op1 ++[x])))).ws=(ws0 ++(loc ++op1)) ++[x]:=by
   show ws0 ++(loc ++(op1 ++[x]))=_;simp
  have l2:=last_set hn hw2;have d2:=drop_set hn hw2 (n:=1) rfl;have hg0:10≤10+g:=by
   unfold handle at hg;rw[Bool.and_eq_true,decide_eq_true_eq]at hg;exact hg.1
  obtain⟨k,rfl,hk,hgk,hk0⟩:=hx.2.2 hg0;rw[gsOf_len]at hk;rw[gsOf_at t hk]at hgk;have hgt:g.toNat=bot (co t k).fr:=by omega
  unfold resumeU;simp only[l1,d1,l2,d2,Int.toNat_natCast,set_now];obtain⟨c1,ec⟩:∃c1,c1=thr (cur t) fs0 ⟨q,p+1,ws0.length⟩ (ws0 ++(loc ++op1)):=⟨_,rfl⟩;have ec':({thr (cur t) fs0 ⟨q,p+1,ws0.length⟩ (ws0 ++(loc ++(op1 ++[(k:Int)])))with ws:=ws0 ++(loc ++op1)}:Co)=c1:=by rw[ec];rfl
  rw[ec'];have hlen1:(ws0 ++(loc ++op1)).length≤400:=by rw[e1]at hwl;simp at hwl⊢;omega
  have hln:=thr_lens hok a (f:=⟨q,p+1,ws0.length⟩) (ws:=ws0 ++(loc ++op1)) hlen1;rw[←ec]at hln;have hbt:= @thr_bot M T t ch fs0 ws0 q p _ _ loc op hok a (p+1) (ws0 ++(loc ++op1));rw[←ec]at hbt;have hc1:c1.st=(cur t).st∧c1.up=(cur t).up:=by rw[ec];exact⟨rfl,rfl⟩
  have hin:t.now∈ch:=List.mem_of_getElem? hok.now;have hst2:(cur t).st=2:=(hok.going _ hn).2 hin;have hck:((setCur t c1).cs.getD k default).st=(co t k).st:=by
   show(co (setC t t.now c1) k).st=_;rw[co_setC hn]
   split
   ·rename_i e;subst e;exact hc1.1
   ·rfl
  split
  ·exact trap_res hV hK
  split
  ·exact trap_res hV hK
  ·rename_i h3 h2'
   rw[hck]at h3 h2';have hs3:=hok.sts k hk;have hk01:(co t k).st=0∨(co t k).st=1:=by omega
   have hknow:t.now≠k:=fun e=>by subst e;rw[←cur_co]at hk01;omega
   have hcok:(setCur t c1).cs.getD k default=co t k:=by
    show co (setC t t.now c1) k=_;rw[co_setC hn,if_neg hknow]
   rw[hcok];have hsw:Stk M T (gsOf t) c1.fr c1.ws [(unt M (bot (co t k).fr)).result]:=by
    obtain⟨h2,t1,t2⟩:=hon;rw[ec];refine a.under.stk ⟨a.hq,s1,h2,loc,op1,?_,rfl,a.loc.le t2,g1⟩;rw[←hgt];exact t1
   split
   ·rename_i h0
    refine⟨.inr (.inr ⟨k::ch,?_⟩),hK⟩;exact hok.into hk hk01 hc1.1 hc1.2 hbt hln hsw (ws:=(co t k).ws) (hok.fresh k hk h0) (hok.lens k hk).1
   ·rename_i h0
    have h1':(co t k).st=1:=by omega
    have hheld:=hok.held k hk h1';unfold push;have hk':k<(setCur t c1).cs.length:=by rw[set_len];exact hk
    have hcur:cur {setC (setCur t c1) k {co t k with st:=2,up:=some t.now}with now:=k}={co t k with st:=2,up:=some t.now}:=by
     show co (setC (setCur t c1) k _) k=_;rw[co_setC hk',if_pos rfl]
    simp only[hcur]
    split
    ·exact trap_res hV hK
    ·rename_i h4
     have hl4:=(hok.lens k hk).1;have hset:setCur {setC (setCur t c1) k {co t k with st:=2,up:=some t.now}with now:=k} {co t k with st:=2,up:=some t.now,ws:=(co t k).ws ++[y]}={setC (setCur t c1) k {co t k with st:=2,up:=some t.now,ws:=(co t k).ws ++[y]}with now:=k}:=by
      unfold setCur setC;simp[List.set_set]
     refine⟨.inr (.inr ⟨k::ch,?_⟩),hK⟩;have hgo:=hok.into hk hk01 hc1.1 hc1.2 hbt hln hsw (ws:=(co t k).ws ++[y]) (hheld.got (by rw[←hgt];exact hy)) (by simp;omega);rw[←hset]at hgo;exact hgo
 |_=>exfalso;omega
theorem exec_alive(ho:i.op=32):Res M T K (exec V M i (setPc (p+1) t,s)):=by
 have hn:=hok.nowlt;rw[a.pc];have hpu:=fun{op1 s1 ty v}=>pushes hV hok a hr (by omega) (by omega) (by omega) (op1:=op1) (s1:=s1) (ty:=ty) (v:=v)
 unfold exec;rw[if_neg (by omega),if_neg (by omega),if_neg (by omega),if_neg (by omega),if_neg (by omega),if_neg (by omega),if_neg (by omega),if_neg (by omega),if_neg (by omega),if_neg (by omega),if_neg (by omega),if_neg (by omega),if_neg (by omega),if_neg (by omega),if_neg (by omega),if_neg (by omega),if_neg (by omega),if_neg (by omega),if_neg (by omega),if_pos ho]
 cases hr.does with
 |alive s1 h1 g hi hg=>
  obtain⟨op1,y,e1,g1,g2⟩:=a.op.split;obtain⟨x,rfl,hx⟩:=g2.un1;obtain⟨l1,d1⟩:=pop1 hC hok a hr ⟨q,p+1,ws0.length⟩ e1;unfold aliveU;simp only[l1,d1];exact hpu rfl g1 vOk.bool a.loc hK (by rw[e1];simp)
 |_=>exfalso;omega
theorem exec_start(ho:i.op=29):Res M T K (exec V M i (setPc (p+1) t,s)):=by
 have hn:=hok.nowlt;rw[a.pc];have hwl:=wslen hok a;have hon:=on hok a hr (by omega) (by omega) (by omega);obtain⟨k0,k1,k2⟩:=unit_eq (hr.ok.start ho);have hk:i.a.toNat<M.units.length:=by omega
 have hkk:(unt M i.a.toNat).kind=3:=k2;have hhf:=head_facts (unt_head hC hk);unfold exec;rw[if_neg (by omega),if_neg (by omega),if_neg (by omega),if_neg (by omega),if_neg (by omega),if_neg (by omega),if_neg (by omega),if_neg (by omega),if_neg (by omega),if_neg (by omega),if_neg (by omega),if_neg (by omega),if_neg (by omega),if_neg (by omega),if_neg (by omega),if_neg (by omega),if_pos ho]
 cases hr.does with
 |start s1 h1 hi=>
  obtain⟨op1,ar,e1,g1,g2⟩:=a.op.split;have harl:ar.length=(unt M i.a.toNat).params.toNat:=by
   have:=g2.len;rw[←this];show((unt M i.a.toNat).locals.take (unt M i.a.toNat).params.toNat).length=_;simp;omega
  have hws:(thr (cur t) fs0 ⟨q,p+1,ws0.length⟩ (ws0 ++(loc ++op))).ws=(ws0 ++(loc ++op1)) ++ar:=by
   show ws0 ++(loc ++op)=_;rw[e1];simp
  have hd:=drop_set hn hws harl;unfold startU;simp only[hd,cur_set hn];have hdr:(thr (cur t) fs0 ⟨q,p+1,ws0.length⟩ (ws0 ++(loc ++op))).ws.drop ((thr (cur t) fs0 ⟨q,p+1,ws0.length⟩ (ws0 ++(loc ++op))).ws.length-(unt M i.a.toNat).params.toNat)=ar:=by
   rw[hws,←harl,List.length_append,Nat.add_sub_cancel];exact List.drop_left
  rw[hdr]
  split
  ·exact trap_res hV hK
  ·rename_i h30
   rw[set_len]at h30;obtain⟨b,hb⟩:∃b,b=begin M i.a.toNat ar:=⟨_,rfl⟩;have hbot:bot b.fr=i.a.toNat:=by rw[hb];rfl
   have hbw:b.ws.length=(unt M i.a.toNat).locals.length:=by rw[hb];simp[begin]
   have hb64:∀v∈b.ws,In64 v:=fun v hv=>by
    rw[hb]at hv;simp only[begin,List.mem_map,List.mem_range]at hv;obtain⟨j, -,rfl⟩:=hv;rw[List.getD_eq_getElem?_getD]
    cases hx:ar[j]? with
    |none=>simp[In64]
    |some w=>exact g2.in64 w (List.mem_of_getElem? hx)
   have hbj:∀j,j<(unt M i.a.toNat).params.toNat→b.ws.getD j 0=ar.getD j 0:=fun j hj=>by
    rw[hb];simp only[begin];rw[List.getD_eq_getElem?_getD,List.getElem?_map,List.getElem?_range (by omega)];rfl
   have hmore:=hok.more (c:=b) (by omega) (by rw[hb];rfl) (by
    rw[hbot];have:=start_seg hC (gs:=gsOf t ++[i.a.toNat]) hk g2.grow hbw hbj hb64;have hfr:b.fr=[⟨i.a.toNat,0,0⟩]:=by rw[hb];rfl
    rw[hfr];exact .one this) ⟨by omega,by rw[hb];simp[begin]⟩ (by rw[hbot];exact⟨hk,hkk⟩)
   rw[←hb];have hcs:(setCur t ({thr (cur t) fs0 ⟨q,p+1,ws0.length⟩ (ws0 ++(loc ++op))with ws:=ws0 ++(loc ++op1)}:Co)).cs.length=t.cs.length:=set_len _ _;obtain⟨t1,et⟩:∃t1:Tk,t1={t with cs:=t.cs ++[b]}:=⟨_,rfl⟩;rw[←et]at hmore;have hn1:t1.now<t1.cs.length:=hmore.nowlt;have hcur1:cur t1=cur t:=by rw[et];exact co_more hn
   have hgs1:gsOf t1=gsOf t ++[i.a.toNat]:=by rw[et,gsOf_more,hbot]
   have hst1:({setCur t ({thr (cur t) fs0 ⟨q,p+1,ws0.length⟩ (ws0 ++(loc ++op))with ws:=ws0 ++(loc ++op1)}:Co)with cs:=(setCur t ({thr (cur t) fs0 ⟨q,p+1,ws0.length⟩ (ws0 ++(loc ++op))with ws:=ws0 ++(loc ++op1)}:Co)).cs ++[b]}:Tk)=setCur t1 (thr (cur t1) fs0 ⟨q,p+1,ws0.length⟩ (ws0 ++(loc ++op1))):=by
    rw[hcur1,et];unfold setCur setC;simp only[Tk.mk.injEq,and_true,true_and];rw[List.set_append_left _ _ hn];rfl
   rw[hst1,hcs];have a1:At M T t1 fs0 ws0 q p (s1 ++List.take (M.units.getD i.a.toNat default).params.toNat (M.units.getD i.a.toNat default).locals) hh loc op:=⟨by rw[hcur1];exact a.fr,by rw[hcur1];exact a.ws,a.hq,a.hT,by rw[hgs1];exact a.loc.grow,by rw[hgs1];exact a.op.grow,by
    rw[hgs1];rcases a.under with u|⟨u1,u2⟩
    ·exact .inl u
    ·exact .inr ⟨u1.grow,u2⟩⟩
   refine pushes hV hmore a1 hr (by omega) (by omega) (by omega) rfl (by rw[hgs1];exact g1.grow) ?_ (by rw[hgs1];exact a.loc.grow) (hV.tell _ _ hK) (by rw[e1];simp);refine⟨by unfold In64;omega,fun h=>by omega,fun _=>⟨t.cs.length,rfl,by rw[hgs1];simp[gsOf_len],?_,by omega⟩⟩;rw[hgs1,List.getD_eq_getElem?_getD,List.getElem?_append_right (by rw[gsOf_len];exact Nat.le_refl _),gsOf_len];simp;omega
 |_=>exfalso;omega
end
section
variable{M:Mdl}{T:Nat→Int→Option Shape}{ν:Type}{V:Env ν}{K:ν→Prop}(hC:Certs M T)(hV:EnvOk V M K)
include hC hV
theorem exec_res{t:Tk}{ch:List Nat}(hok:Ok M T t ch){s:ν}(hK:K s)(hw:((insT M t).op=26→V.full s (insT M t).a.toNat=false)∧((insT M t).op=27→V.empty s (insT M t).a.toNat=false)):
  Res M T K (exec V M (insT M t) (setPc ((topF (cur t)).pc+1) t,s)):=by
 obtain⟨fs0,ws0,q,p,st,hh,loc,op,a⟩:=hok.at_;obtain⟨st',h',hr⟩:=a.here hC;have e:(topF (cur t)).pc=p:=by rw[a.top]
 rw[e];have ho:=hr.ok.op
 by_cases h1:(insT M t).op=1∨(insT M t).op=2∨(insT M t).op=3
 ·exact exec_push hC hV hok a hr hK h1
 by_cases h2:(insT M t).op=4∨(insT M t).op=5∨(insT M t).op=6∨(insT M t).op=7∨(insT M t).op=22∨(insT M t).op=26∨(insT M t).op=28
 ·exact exec_pop hC hV hok a hr hK h2 hw.1
 by_cases h3:8≤(insT M t).op∧(insT M t).op≤20
 ·exact exec_two hC hV hok a hr hK h3
 by_cases h4:(insT M t).op=21∨(insT M t).op=27
 ·exact exec_more hC hV hok a hr hK h4 hw.2
 by_cases h5:(insT M t).op=23
 ·exact exec_call hC hV hok a hr hK h5
 by_cases h6:(insT M t).op=24
 ·exact exec_ret hC hV hok a hr hK h6
 by_cases h7:(insT M t).op=25
 ·exact exec_end hC hV hok a hr hK h7
 by_cases h8:(insT M t).op=29
 ·exact exec_start hC hV hok a hr hK h8
 by_cases h9:(insT M t).op=30
 ·exact exec_resume hC hV hok a hr hK h9
 by_cases h10:(insT M t).op=31
 ·exact exec_yield hC hV hok a hr hK h10
 have h11:(insT M t).op=32:=by omega
 exact exec_alive hC hV hok a hr hK h11
def Good(M:Mdl)(T:Nat→Int→Option Shape)(K:ν→Prop)(r:Tk×ν):Prop:=(r.1.st=5∨r.1.st=4∨(r.1.st≤3∧∃ch,Ok M T r.1 ch))∧K r.2
omit hC hV in
theorem Ok.st{t:Tk}{ch:List Nat}(h:Ok M T t ch)(n b:Int):Ok M T {t with st:=n,bx:=b} ch:=⟨h.now,h.few,h.nodup,h.mem,h.going,h.chain,h.root,h.top,h.wait,h.fresh,h.held,h.lens,h.kinds,h.sts⟩
omit hC hV in
theorem look_good{r:Tk×ν}(h:Good M T K r):Good M T K (look V M r):=by
 unfold look
 by_cases h3:r.1.st≤3
 ·rw[if_pos h3];obtain⟨h1,h2⟩:=h;have hok:∃ch,Ok M T r.1 ch:=by
   rcases h1 with h|h|h
   ·omega
   ·omega
   ·exact h.2
  obtain⟨ch,hok⟩:=hok;unfold waits
  split
  ·exact⟨.inr (.inr ⟨by simp,ch,hok.st _ _⟩),h2⟩
  split
  ·exact⟨.inr (.inr ⟨by simp,ch,hok.st _ _⟩),h2⟩
  ·exact⟨.inr (.inr ⟨by simp,ch,hok.st _ _⟩),h2⟩
 ·rw[if_neg h3];exact h
theorem push_st(v:Int)(s:Tk×ν):(push V v s).1.st=s.1.st∨(push V v s).1.st=5:=by
 unfold push
 split
 ·unfold trap;split
  ·exact .inl rfl
  ·exact .inr rfl
 ·exact .inl rfl
theorem trap_st(n:Int)(s:Tk×ν):(trap V n s).1.st=s.1.st∨(trap V n s).1.st=5:=by
 unfold trap;split
 ·exact .inl rfl
 ·exact .inr rfl
theorem pushN_st:∀(n:Nat) (s:Tk×ν),(pushN V n s).1.st=s.1.st∨(pushN V n s).1.st=5
 |0,s=> .inl rfl
 |n+1,s=>by
  unfold pushN;rcases pushN_st n (push V 0 s)with h|h
  ·rw[h];exact push_st hC hV 0 s
  ·exact .inr h
def StP(n:Int)(r:Tk×ν):Prop:=r.1.st=n∨r.1.st=5∨r.1.st=4
omit hC hV in
theorem StP.ite{n:Int}{c:Prop} [Decidable c]{a b:Tk×ν}(h1:StP n a)(h2:StP n b):StP n (if c then a else b):=by split<;>assumption
theorem exec_st(i:Ins)(s:Tk×ν):StP s.1.st (exec V M i s):=by
 have hp:∀v (r:Tk×ν),r.1.st=s.1.st→StP s.1.st (push V v r):=fun v r e=>by
  rcases push_st hC hV v r with h|h
  ·exact .inl (h.trans e)
  ·exact .inr (.inl h)
 have ht:∀v (r:Tk×ν),r.1.st=s.1.st→StP s.1.st (trap V v r):=fun v r e=>by
  rcases trap_st hC hV v r with h|h
  ·exact .inl (h.trans e)
  ·exact .inr (.inl h)
 have hn:∀n (r:Tk×ν),r.1.st=s.1.st→StP s.1.st (pushN V n r):=fun n r e=>by
  rcases pushN_st hC hV n r with h|h
  ·exact .inl (h.trans e)
  ·exact .inr (.inl h)
 have he:StP s.1.st (endU V s):=by
  unfold endU
  cases(cur s.1).up with
  |none=>exact .inr (.inr rfl)
  |some j=>exact hp _ _ rfl
 unfold exec callU ret startU resumeU yieldU aliveU;dsimp only
 repeat' (first|exact he|exact hp _ _ rfl|exact ht _ _ rfl|exact hn _ _ rfl|refine StP.ite ?_ ?_|exact .inl rfl|(refine .inl ?_;show(if _ then _ else _:Tk).st=_;split<;>rfl))
theorem step_good{r:Tk×ν}(h:Good M T K r):Good M T K (step V M r).2:=by
 unfold step;have hl:=look_good (V:=V) h;generalize hL:look V M r=r1 at *;simp only
 split
 ·exact hl
 ·rename_i hst
  have hst1:r1.1.st=1:=Classical.byContradiction hst;obtain⟨h1,hK⟩:=hl;have hok:∃ch,Ok M T r1.1 ch:=by
   rcases h1 with h|h|h
   ·omega
   ·omega
   ·exact h.2
  obtain⟨ch,hok⟩:=hok;have hw:((insT M r1.1).op=26→V.full r1.2 (insT M r1.1).a.toNat=false)∧((insT M r1.1).op=27→V.empty r1.2 (insT M r1.1).a.toNat=false):=by
   have hr3:r.1.st≤3:=by
    refine Int.not_lt.1 fun hlt=>?_
    unfold look at hL;rw[if_neg (by omega)]at hL;subst hL;omega
   unfold look at hL;rw[if_pos hr3]at hL;have hi:insT M r1.1=insT M r.1∧r1.2=r.2:=by
    rw[←hL];unfold waits
    split
    ·exact⟨rfl,rfl⟩
    split
    ·exact⟨rfl,rfl⟩
    ·exact⟨rfl,rfl⟩
   rw[hi.1,hi.2];unfold waits at hL
   by_cases c1:(insT M r.1).op=26∧V.full r.2 (insT M r.1).a.toNat=true
   ·rw[if_pos c1]at hL;subst hL;simp at hst1
   ·rw[if_neg c1]at hL
    by_cases c2:(insT M r.1).op=27∧V.empty r.2 (insT M r.1).a.toNat=true
    ·rw[if_pos c2]at hL;subst hL;simp at hst1
    ·refine⟨fun ho=>?_,fun ho=>?_⟩
     ·cases hx:V.full r.2 (insT M r.1).a.toNat with
      |false=>rfl
      |true=>exact absurd ⟨ho,hx⟩ c1
     ·cases hx:V.empty r.2 (insT M r.1).a.toNat with
      |false=>rfl
      |true=>exact absurd ⟨ho,hx⟩ c2
  have hres:=exec_res hC hV hok hK hw;have hest:=exec_st hC hV (insT M r1.1) (setPc ((topF (cur r1.1)).pc+1) r1.1,r1.2);refine look_good (V:=V) ⟨?_,hres.2⟩;rcases hres.1 with h|h|h
  ·exact .inl h
  ·exact .inr (.inl h)
  ·rcases hest with e|e|e
   ·refine .inr (.inr ⟨?_,h⟩);rw[e];show r1.1.st≤3;omega
   ·exact .inl e
   ·exact .inr (.inl e)
end
theorem new_ok{M:Mdl}{T:Nat→Int→Option Shape}(hC:Certs M T){u:Nat}(hu:u<M.units.length)(hk:(unt M u).kind=4):Ok M T (new M u) [0]:=by
 have hh:=head_facts (unt_head hC hu);have hp:(unt M u).params.toNat=0:=by
  have h:=unt_head hC hu;unfold Ver.head at h
  by_cases e1:(unt M u).kind≠2∧(unt M u).kind≠3∧(unt M u).kind≠4
  ·rw[if_pos e1]at h;cases h
  rw[if_neg e1]at h
  by_cases e2:200<(unt M u).locals.length∨(unt M u).params<0∨6<(unt M u).params∨((unt M u).locals.length:Int)<(unt M u).params∨((unt M u).kind=4∧0<(unt M u).params)
  ·rw[if_pos e2]at h;cases h
  omega
 have hco:∀k,k<(new M u).cs.length→k=0:=fun k h=>by simp[new]at h;omega
 have hco0:co (new M u) 0={begin M u []with st:=2}:=rfl;have hst:Stk M T (gsOf (new M u)) [⟨u,0,0⟩] (begin M u []).ws []:=by
  refine .one (start_seg hC hu (a:=[]) ?_ (by simp[begin]) (fun j hj=>by omega) (fun v hv=>?_))
  ·rw[hp];exact .nil
  ·simp only[begin,List.mem_map]at hv;obtain⟨j, -,rfl⟩:=hv;simp[In64]
 refine⟨rfl,by simp[new],by simp,fun k hk=>by simp at hk;subst hk;simp[new],fun k hk'=>?_,fun i k h=>?_,fun i k h _=>?_,hst,fun i d k h1 h2=>?_,fun k hk' h0=>?_,fun k hk' h0=>?_,fun k hk'=>?_,fun k hk'=>?_,fun k hk'=>?_⟩
 ·obtain rfl:=hco k hk';rw[hco0];simp
 ·cases i with
  |zero=>simp at h;subst h;rfl
  |succ i=>simp at h
 ·cases i with
  |zero=>simp at h;exact h.symm
  |succ i=>simp at h
 ·simp at h2
 ·obtain rfl:=hco k hk';rw[hco0]at h0;cases h0
 ·obtain rfl:=hco k hk';rw[hco0]at h0;cases h0
 ·obtain rfl:=hco k hk';rw[hco0];refine⟨?_,by simp[begin]⟩;show(begin M u []).ws.length≤400;simp[begin];omega
 ·obtain rfl:=hco k hk';rw[hco0];exact⟨hu,by rw[if_pos rfl];exact hk⟩
 ·obtain rfl:=hco k hk';rw[hco0];simp
end Go.Proofs.Ytgnhfinabhimpaa.Vm
