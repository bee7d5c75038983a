/- A right module's task keeps what is known: generators; each step. Plain Lean. -/
import Derived.Test.YtjehflelkpacfaaGreatM10
import Derived.Laws.IdiomCopy
set_option linter.unusedVariables false
set_option linter.unusedSimpArgs false
set_option linter.unusedSectionVars false
set_option maxRecDepth 100000
namespace Go.Proofs.YtjehflelkpacfaaGreat.Vm
open ImgM Ver Opt
section
variable{M:Mdl}{T:Nat→Int→Option Shape}{t:Tk}{ch:List Nat}{fs0:List Fr}{ws0:List Int}{q p:Nat}{st:List Int}{hh:List Bool}{loc op:List Int}{i:Ins}{st':List Int}{h':List Bool}
variable{ν:Type}{V:Env ν}{K:ν→Prop}(hC:Certs M T)(hV:EnvOk V M K)(hok:Ok M T t ch)(a:At M T t fs0 ws0 q p st hh loc op)(hr:Here M T q p i st hh st' h'){s:ν}(hK:K s)
include hok a
theorem alone(hk:(unt M q).kind≠2):fs0=[]∧ws0=[]:=by
 rcases a.under with h|⟨h,h2⟩
 ·exact h
 ·exact absurd h2 hk
theorem alone_bot(hk:(unt M q).kind≠2):bot (cur t).fr=q:=by
 obtain⟨rfl,rfl⟩:=alone hok a hk;rw[a.fr];rfl
theorem thr_lens{f:Fr}{ws:List Int}(h:ws.length≤400):(thr (cur t) fs0 f ws).ws.length≤400∧(thr (cur t) fs0 f ws).fr.length≤40:=by
 have:=(hok.lens _ hok.nowlt).2;rw[←cur_co,a.fr]at this;refine⟨h,?_⟩;show(fs0 ++[f]).length≤40;simpa using this
theorem thr_bot{pc:Nat}{ws:List Int}:bot (thr (cur t) fs0 ⟨q,pc,ws0.length⟩ ws).fr=bot (cur t).fr:=by
 rw[a.fr];exact bot_snoc _ _ _ rfl
include hC hV hr hK
theorem exec_end(ho:i.op=25):Res M T K (exec V M i (setPc (p+1) t,s)):=by
 have hn:=hok.nowlt;rw[a.pc];have hwl:=wslen hok a;unfold exec;rw[if_neg (by omega),if_neg (by omega),if_neg (by omega),if_neg (by omega),if_neg (by omega),if_neg (by omega),if_neg (by omega),if_neg (by omega),if_neg (by omega),if_neg (by omega),if_neg (by omega),if_neg (by omega),if_neg (by omega),if_neg (by omega),if_neg (by omega),if_pos ho];have hup:=hok.chain 0 t.now hok.now;rw[←cur_co]at hup;have hb0:=hok.kinds _ hn;rw[←cur_co]at hb0
 cases hr.does with
 |end_ h1 hi hk2=>
  have hbot:=alone_bot hok a hk2;have hbt:= @thr_bot M T t ch fs0 ws0 q p _ _ loc op hok a (p+1) (ws0 ++(loc ++op));have hln:=thr_lens hok a (f:=⟨q,p+1,ws0.length⟩) (ws:=ws0 ++(loc ++op)) (by simp;omega);unfold endU;simp only[cur_set hn,set_set];have e1:(thr (cur t) fs0 ⟨q,p+1,ws0.length⟩ (ws0 ++(loc ++op))).up=ch[1]?:=hup;rw[e1]
  cases hj:ch[1]? with
  |none=>exact⟨.inr (.inl rfl),hV.tell _ _ hK⟩
  |some j=>
   have hne:=hok.ne1 hj;have hjl:j<t.cs.length:=hok.mem _ (List.mem_of_getElem? hj);have hn0:t.now≠0:=fun e=>by
    have hx:∀n m:Nat,ch.length=n→ch[m]?=some 0→m+1=n∨m+1<n:=fun n m hl hm=>by have:=(List.getElem?_eq_some_iff.1 hm).1;omega
    obtain⟨m,hm1⟩:∃m,ch.length=m+1:=⟨ch.length-1,by have:=(List.getElem?_eq_some_iff.1 hj).1;omega⟩;have hlast:∃k,ch[m]?=some k:=⟨_,Je (by omega)⟩;obtain⟨k,hk⟩:=hlast;have hz:=hok.root m k hk (List.getElem?_eq_none (by omega));subst hz;have:=hok.now;rw[e]at this;have:=nodup_at hok.nodup this hk;have:=(List.getElem?_eq_some_iff.1 hj).1;omega
   rw[if_neg hn0]at hb0;have hpl:=(head_facts (unt_head hC hb0.1)).2.2 hb0.2;simp only;unfold push;have hcur:cur {setCur t {thr (cur t) fs0 ⟨q,p+1,ws0.length⟩ (ws0 ++(loc ++op))with st:=3,up:=none}with now:=j}=co t j:=by
    show co (setC t t.now _) j=co t j;rw[co_setC hn,if_neg hne]
   simp only[hcur]
   split
   ·exact trap_res hV hK
   ·rename_i h4
    have hl4:=(hok.lens j hjl).1;refine⟨.inr (.inr ⟨ch.tail,?_⟩),hK⟩;exact hok.back hj (c:={thr (cur t) fs0 ⟨q,p+1,ws0.length⟩ (ws0 ++(loc ++op))with st:=3,up:=none}) (.inl rfl) hbt hln (fun h=>by cases h) (plain_vOk hpl.1) (by omega)
 |_=>exfalso;omega
theorem exec_yield(ho:i.op=31):Res M T K (exec V M i (setPc (p+1) t,s)):=by
 have hn:=hok.nowlt;rw[a.pc];have hwl:=wslen hok a;have hon:=on hok a hr (by omega) (by omega) (by omega);unfold exec;rw[if_neg (by omega),if_neg (by omega),if_neg (by omega),if_neg (by omega),if_neg (by omega),if_neg (by omega),if_neg (by omega),if_neg (by omega),if_neg (by omega),if_neg (by omega),if_neg (by omega),if_neg (by omega),if_neg (by omega),if_neg (by omega),if_neg (by omega),if_neg (by omega),if_neg (by omega),if_neg (by omega),if_pos ho];have hup:=hok.chain 0 t.now hok.now;rw[←cur_co]at hup;have hb0:=hok.kinds _ hn;rw[←cur_co]at hb0
 cases hr.does with
 |yield s1 h1 hi hk3=>
  have hk2:(unt M q).kind≠2:=by omega
  have hbot:=alone_bot hok a hk2;obtain⟨hf0,hw0⟩:=alone hok a hk2;have hn0:t.now≠0:=fun e=>by rw[hbot,if_pos e,hk3]at hb0;omega
  obtain⟨op1,v,e1,g1,g2⟩:∃op1 v,op=op1 ++[v]∧Typs (gsOf t) s1 op1∧vOk (gsOf t) (unt M q).result v:=by
   obtain⟨x,y,e1,g1,g2⟩:=a.op.split;obtain⟨v,rfl,hv⟩:=g2.un1;exact⟨x,v,e1,g1,hv⟩
  obtain⟨hl,hd⟩:=pop1 hC hok a hr ⟨q,p+1,ws0.length⟩ e1;obtain⟨j,hj⟩:∃j,ch[1]?=some j:=by
   cases hj:ch[1]? with
   |none=>exact absurd (hok.root 0 t.now hok.now hj) hn0
   |some j=>exact⟨j,rfl⟩
  have hne:=hok.ne1 hj;have hjl:j<t.cs.length:=hok.mem _ (List.mem_of_getElem? hj);have hbt:= @thr_bot M T t ch fs0 ws0 q p _ _ loc op hok a (p+1) (ws0 ++(loc ++op1));have hlen1:(ws0 ++(loc ++op1)).length≤400:=by rw[e1]at hwl;simp at hwl⊢;omega
  have hln:=thr_lens hok a (f:=⟨q,p+1,ws0.length⟩) (ws:=ws0 ++(loc ++op1)) hlen1;unfold yieldU;simp only[hl,hd,cur_set hn,set_set];have e2:(thr (cur t) fs0 ⟨q,p+1,ws0.length⟩ (ws0 ++(loc ++op1))).up.getD 0=j:=by
   show(cur t).up.getD 0=j;rw[hup,hj];rfl
  rw[e2];unfold push;have hcur:cur {setCur t {thr (cur t) fs0 ⟨q,p+1,ws0.length⟩ (ws0 ++(loc ++op1))with st:=1,up:=none}with now:=j}=co t j:=by
   show co (setC t t.now _) j=co t j;rw[co_setC hn,if_neg hne]
  simp only[hcur]
  split
  ·exact trap_res hV hK
  ·rename_i h4
   have hl4:=(hok.lens j hjl).1;refine⟨.inr (.inr ⟨ch.tail,?_⟩),hK⟩;refine hok.back hj (c:={thr (cur t) fs0 ⟨q,p+1,ws0.length⟩ (ws0 ++(loc ++op1))with st:=1,up:=none}) (.inr rfl) hbt hln (fun _=>?_) (by rw[hbot];exact g2) (by omega);show Stk M T (gsOf t) (fs0 ++[⟨q,p+1,ws0.length⟩]) (ws0 ++(loc ++op1)) [(unt M (bot (thr (cur t) fs0 ⟨q,p+1,ws0.length⟩ (ws0 ++(loc ++op1))).fr)).takes];rw[hbt,hbot];obtain⟨h2,t1,t2⟩:=hon;exact a.under.stk ⟨a.hq,s1,h2,loc,op1,t1,rfl,a.loc.le t2,g1⟩
 |_=>exfalso;omega
theorem exec_resume(ho:i.op=30):Res M T K (exec V M i (setPc (p+1) t,s)):=by
 have hn:=hok.nowlt;rw[a.pc];have hwl:=wslen hok a;have hon:=on hok a hr (by omega) (by omega) (by omega);unfold exec;rw[if_neg (by omega),if_neg (by omega),if_neg (by omega),if_neg (by omega),if_neg (by omega),if_neg (by omega),if_neg (by omega),if_neg (by omega),if_neg (by omega),if_neg (by omega),if_neg (by omega),if_neg (by omega),if_neg (by omega),if_neg (by omega),if_neg (by omega),if_neg (by omega),if_neg (by omega),if_pos ho]
 cases hr.does with
 |resume s1 h1 g hi hg=>
  obtain⟨op1,y,e1,g1,g2⟩:=a.op.split;obtain⟨x,y,rfl,hx,hy⟩:=g2.un2;obtain⟨l1,d1⟩:=pop1 hC hok a hr ⟨q,p+1,ws0.length⟩ (op1:=op1 ++[x]) (v:=y) (by rw[e1];simp);have hw2:(thr (cur t) fs0 ⟨q,p+1,ws0.length⟩ (ws0 ++(loc ++(op1 ++[x])))).ws=(ws0 ++(loc ++op1)) ++[x]:=by
   show ws0 ++(loc ++(op1 ++[x]))=_;simp
  have l2:=last_set hn hw2;have d2:=drop_set hn hw2 (n:=1) rfl;have hg0:10≤10+g:=by
   unfold handle at hg;rw[JX,JV]at hg;exact hg.1
  obtain⟨k,rfl,hk,hgk,hk0⟩:=hx.2.2 hg0;rw[gsOf_len]at hk;rw[gsOf_at t hk]at hgk;have hgt:g.toNat=bot (co t k).fr:=by omega
  unfold resumeU;simp only[l1,d1,l2,d2,Jj,set_now];obtain⟨c1,ec⟩:∃c1,c1=thr (cur t) fs0 ⟨q,p+1,ws0.length⟩ (ws0 ++(loc ++op1)):=⟨_,rfl⟩;have ec':({thr (cur t) fs0 ⟨q,p+1,ws0.length⟩ (ws0 ++(loc ++(op1 ++[(k:Int)])))with ws:=ws0 ++(loc ++op1)}:Co)=c1:=by rw[ec];rfl
  rw[ec'];have hlen1:(ws0 ++(loc ++op1)).length≤400:=by rw[e1]at hwl;simp at hwl⊢;omega
  have hln:=thr_lens hok a (f:=⟨q,p+1,ws0.length⟩) (ws:=ws0 ++(loc ++op1)) hlen1;rw[←ec]at hln;have hbt:= @thr_bot M T t ch fs0 ws0 q p _ _ loc op hok a (p+1) (ws0 ++(loc ++op1));rw[←ec]at hbt;have hc1:c1.st=(cur t).st∧c1.up=(cur t).up:=by rw[ec];exact⟨rfl,rfl⟩
  have hin:t.now∈ch:=List.mem_of_getElem? hok.now;have hst2:(cur t).st=2:=(hok.going _ hn).2 hin;have hck:((setCur t c1).cs.getD k default).st=(co t k).st:=by
   show(co (setC t t.now c1) k).st=_;rw[co_setC hn]
   split
   ·rename_i e;subst e;exact hc1.1
   ·rfl
  split
  ·exact trap_res hV hK
  split
  ·exact trap_res hV hK
  ·rename_i h3 h2'
   rw[hck]at h3 h2';have hs3:=hok.sts k hk;have hk01:(co t k).st=0∨(co t k).st=1:=by omega
   have hknow:t.now≠k:=fun e=>by subst e;rw[←cur_co]at hk01;omega
   have hcok:(setCur t c1).cs.getD k default=co t k:=by
    show co (setC t t.now c1) k=_;rw[co_setC hn,if_neg hknow]
   rw[hcok];have hsw:Stk M T (gsOf t) c1.fr c1.ws [(unt M (bot (co t k).fr)).result]:=by
    obtain⟨h2,t1,t2⟩:=hon;rw[ec];refine a.under.stk ⟨a.hq,s1,h2,loc,op1,?_,rfl,a.loc.le t2,g1⟩;rw[←hgt];exact t1
   split
   ·rename_i h0
    refine⟨.inr (.inr ⟨k::ch,?_⟩),hK⟩;exact hok.into hk hk01 hc1.1 hc1.2 hbt hln hsw (ws:=(co t k).ws) (hok.fresh k hk h0) (hok.lens k hk).1
   ·rename_i h0
    have h1':(co t k).st=1:=by omega
    have hheld:=hok.held k hk h1';unfold push;have hk':k<(setCur t c1).cs.length:=by rw[set_len];exact hk
    have hcur:cur {setC (setCur t c1) k {co t k with st:=2,up:=some t.now}with now:=k}={co t k with st:=2,up:=some t.now}:=by
     show co (setC (setCur t c1) k _) k=_;rw[co_setC hk',if_pos rfl]
    simp only[hcur]
    split
    ·exact trap_res hV hK
    ·rename_i h4
     have hl4:=(hok.lens k hk).1;have hset:setCur {setC (setCur t c1) k {co t k with st:=2,up:=some t.now}with now:=k} {co t k with st:=2,up:=some t.now,ws:=(co t k).ws ++[y]}={setC (setCur t c1) k {co t k with st:=2,up:=some t.now,ws:=(co t k).ws ++[y]}with now:=k}:=by
      unfold setCur setC;simp[List.set_set]
     refine⟨.inr (.inr ⟨k::ch,?_⟩),hK⟩;have hgo:=hok.into hk hk01 hc1.1 hc1.2 hbt hln hsw (ws:=(co t k).ws ++[y]) (hheld.got (by rw[←hgt];exact hy)) (by simp;omega);rw[←hset]at hgo;exact hgo
 |_=>exfalso;omega
theorem exec_alive(ho:i.op=32):Res M T K (exec V M i (setPc (p+1) t,s)):=by
 have hn:=hok.nowlt;rw[a.pc];have hpu:=fun{op1 s1 ty v}=>pushes hV hok a hr (by omega) (by omega) (by omega) (op1:=op1) (s1:=s1) (ty:=ty) (v:=v)
 unfold exec;rw[if_neg (by omega),if_neg (by omega),if_neg (by omega),if_neg (by omega),if_neg (by omega),if_neg (by omega),if_neg (by omega),if_neg (by omega),if_neg (by omega),if_neg (by omega),if_neg (by omega),if_neg (by omega),if_neg (by omega),if_neg (by omega),if_neg (by omega),if_neg (by omega),if_neg (by omega),if_neg (by omega),if_neg (by omega),if_pos ho]
 cases hr.does with
 |alive s1 h1 g hi hg=>
  obtain⟨op1,y,e1,g1,g2⟩:=a.op.split;obtain⟨x,rfl,hx⟩:=g2.un1;obtain⟨l1,d1⟩:=pop1 hC hok a hr ⟨q,p+1,ws0.length⟩ e1;unfold aliveU;simp only[l1,d1];exact hpu rfl g1 vOk.bool a.loc hK (by rw[e1];simp)
 |_=>exfalso;omega
theorem exec_start(ho:i.op=29):Res M T K (exec V M i (setPc (p+1) t,s)):=by
 have hn:=hok.nowlt;rw[a.pc];have hwl:=wslen hok a;have hon:=on hok a hr (by omega) (by omega) (by omega);obtain⟨k0,k1,k2⟩:=unit_eq (hr.ok.start ho);have hk:i.a.toNat<M.units.length:=by omega
 have hkk:(unt M i.a.toNat).kind=3:=k2;have hhf:=head_facts (unt_head hC hk);unfold exec;rw[if_neg (by omega),if_neg (by omega),if_neg (by omega),if_neg (by omega),if_neg (by omega),if_neg (by omega),if_neg (by omega),if_neg (by omega),if_neg (by omega),if_neg (by omega),if_neg (by omega),if_neg (by omega),if_neg (by omega),if_neg (by omega),if_neg (by omega),if_neg (by omega),if_pos ho]
 cases hr.does with
 |start s1 h1 hi=>
  obtain⟨op1,ar,e1,g1,g2⟩:=a.op.split;have harl:ar.length=(unt M i.a.toNat).params.toNat:=by
   have:=g2.len;rw[←this];show((unt M i.a.toNat).locals.take (unt M i.a.toNat).params.toNat).length=_;simp;omega
  have hws:(thr (cur t) fs0 ⟨q,p+1,ws0.length⟩ (ws0 ++(loc ++op))).ws=(ws0 ++(loc ++op1)) ++ar:=by
   show ws0 ++(loc ++op)=_;rw[e1];simp
  have hd:=drop_set hn hws harl;unfold startU;simp only[hd,cur_set hn];have hdr:(thr (cur t) fs0 ⟨q,p+1,ws0.length⟩ (ws0 ++(loc ++op))).ws.drop ((thr (cur t) fs0 ⟨q,p+1,ws0.length⟩ (ws0 ++(loc ++op))).ws.length-(unt M i.a.toNat).params.toNat)=ar:=by
   rw[hws,←harl,Jl,Nat.add_sub_cancel];exact List.drop_left
  rw[hdr]
  split
  ·exact trap_res hV hK
  ·rename_i h30
   rw[set_len]at h30;obtain⟨b,hb⟩:∃b,b=begin M i.a.toNat ar:=⟨_,rfl⟩;have hbot:bot b.fr=i.a.toNat:=by rw[hb];rfl
   have hbw:b.ws.length=(unt M i.a.toNat).locals.length:=by rw[hb];simp[begin]
   have hb64:∀v∈b.ws,In64 v:=fun v hv=>by
    rw[hb]at hv;simp only[begin,List.mem_map,List.mem_range]at hv;obtain⟨j, -,rfl⟩:=hv;rw[Jd]
    cases hx:ar[j]? with
    |none=>simp[In64]
    |some w=>exact g2.in64 w (List.mem_of_getElem? hx)
   have hbj:∀j,j<(unt M i.a.toNat).params.toNat→b.ws.getD j 0=ar.getD j 0:=fun j hj=>by
    rw[hb];simp only[begin];rw[Jd,JU,List.getElem?_range (by omega)];rfl
   have hmore:=hok.more (c:=b) (by omega) (by rw[hb];rfl) (by
    rw[hbot];have:=start_seg hC (gs:=gsOf t ++[i.a.toNat]) hk g2.grow hbw hbj hb64;have hfr:b.fr=[⟨i.a.toNat,0,0⟩]:=by rw[hb];rfl
    rw[hfr];exact .one this) ⟨by omega,by rw[hb];simp[begin]⟩ (by rw[hbot];exact⟨hk,hkk⟩)
   rw[←hb];have hcs:(setCur t ({thr (cur t) fs0 ⟨q,p+1,ws0.length⟩ (ws0 ++(loc ++op))with ws:=ws0 ++(loc ++op1)}:Co)).cs.length=t.cs.length:=set_len _ _;obtain⟨t1,et⟩:∃t1:Tk,t1={t with cs:=t.cs ++[b]}:=⟨_,rfl⟩;rw[←et]at hmore;have hn1:t1.now<t1.cs.length:=hmore.nowlt;have hcur1:cur t1=cur t:=by rw[et];exact co_more hn
   have hgs1:gsOf t1=gsOf t ++[i.a.toNat]:=by rw[et,gsOf_more,hbot]
   have hst1:({setCur t ({thr (cur t) fs0 ⟨q,p+1,ws0.length⟩ (ws0 ++(loc ++op))with ws:=ws0 ++(loc ++op1)}:Co)with cs:=(setCur t ({thr (cur t) fs0 ⟨q,p+1,ws0.length⟩ (ws0 ++(loc ++op))with ws:=ws0 ++(loc ++op1)}:Co)).cs ++[b]}:Tk)=setCur t1 (thr (cur t1) fs0 ⟨q,p+1,ws0.length⟩ (ws0 ++(loc ++op1))):=by
    rw[hcur1,et];unfold setCur setC;simp only[Tk.mk.injEq,and_true,true_and];rw[List.set_append_left _ _ hn];rfl
   rw[hst1,hcs];have a1:At M T t1 fs0 ws0 q p (s1 ++List.take (M.units.getD i.a.toNat default).params.toNat (M.units.getD i.a.toNat default).locals) hh loc op:=⟨by rw[hcur1];exact a.fr,by rw[hcur1];exact a.ws,a.hq,a.hT,by rw[hgs1];exact a.loc.grow,by rw[hgs1];exact a.op.grow,by
    rw[hgs1];rcases a.under with u|⟨u1,u2⟩
    ·exact .inl u
    ·exact .inr ⟨u1.grow,u2⟩⟩
   refine pushes hV hmore a1 hr (by omega) (by omega) (by omega) rfl (by rw[hgs1];exact g1.grow) ?_ (by rw[hgs1];exact a.loc.grow) (hV.tell _ _ hK) (by rw[e1];simp);refine⟨by unfold In64;omega,fun h=>by omega,fun _=>⟨t.cs.length,rfl,by rw[hgs1];simp[gsOf_len],?_,by omega⟩⟩;rw[hgs1,Jd,List.getElem?_append_right (by rw[gsOf_len];exact Nat.le_refl _),gsOf_len];simp;omega
 |_=>exfalso;omega
end
section
variable{M:Mdl}{T:Nat→Int→Option Shape}{ν:Type}{V:Env ν}{K:ν→Prop}(hC:Certs M T)(hV:EnvOk V M K)
include hC hV
theorem exec_res{t:Tk}{ch:List Nat}(hok:Ok M T t ch){s:ν}(hK:K s)(hw:((insT M t).op=26→V.full s (insT M t).a.toNat=false)∧((insT M t).op=27→V.empty s (insT M t).a.toNat=false)):
  Res M T K (exec V M (insT M t) (setPc ((topF (cur t)).pc+1) t,s)):=by
 obtain⟨fs0,ws0,q,p,st,hh,loc,op,a⟩:=hok.at_;obtain⟨st',h',hr⟩:=a.here hC;have e:(topF (cur t)).pc=p:=by rw[a.top]
 rw[e];have ho:=hr.ok.op
 by_cases h1:(insT M t).op=1∨(insT M t).op=2∨(insT M t).op=3
 ·exact exec_push hC hV hok a hr hK h1
 by_cases h2:(insT M t).op=4∨(insT M t).op=5∨(insT M t).op=6∨(insT M t).op=7∨(insT M t).op=22∨(insT M t).op=26∨(insT M t).op=28
 ·exact exec_pop hC hV hok a hr hK h2 hw.1
 by_cases h3:8≤(insT M t).op∧(insT M t).op≤20
 ·exact exec_two hC hV hok a hr hK h3
 by_cases h4:(insT M t).op=21∨(insT M t).op=27
 ·exact exec_more hC hV hok a hr hK h4 hw.2
 by_cases h5:(insT M t).op=23
 ·exact exec_call hC hV hok a hr hK h5
 by_cases h6:(insT M t).op=24
 ·exact exec_ret hC hV hok a hr hK h6
 by_cases h7:(insT M t).op=25
 ·exact exec_end hC hV hok a hr hK h7
 by_cases h8:(insT M t).op=29
 ·exact exec_start hC hV hok a hr hK h8
 by_cases h9:(insT M t).op=30
 ·exact exec_resume hC hV hok a hr hK h9
 by_cases h10:(insT M t).op=31
 ·exact exec_yield hC hV hok a hr hK h10
 have h11:(insT M t).op=32:=by omega
 exact exec_alive hC hV hok a hr hK h11
def Good(M:Mdl)(T:Nat→Int→Option Shape)(K:ν→Prop)(r:Tk×ν):Prop:=(r.1.st=5∨r.1.st=4∨(r.1.st≤3∧∃ch,Ok M T r.1 ch))∧K r.2
omit hC hV in
theorem Ok.st{t:Tk}{ch:List Nat}(h:Ok M T t ch)(n b:Int):Ok M T {t with st:=n,bx:=b} ch:=⟨h.now,h.few,h.nodup,h.mem,h.going,h.chain,h.root,h.top,h.wait,h.fresh,h.held,h.lens,h.kinds,h.sts⟩
omit hC hV in
theorem look_good{r:Tk×ν}(h:Good M T K r):Good M T K (look V M r):=by
 unfold look
 by_cases h3:r.1.st≤3
 ·rw[if_pos h3];obtain⟨h1,h2⟩:=h;have hok:∃ch,Ok M T r.1 ch:=by
   rcases h1 with h|h|h
   ·omega
   ·omega
   ·exact h.2
  obtain⟨ch,hok⟩:=hok;unfold waits
  split
  ·exact⟨.inr (.inr ⟨by simp,ch,hok.st _ _⟩),h2⟩
  split
  ·exact⟨.inr (.inr ⟨by simp,ch,hok.st _ _⟩),h2⟩
  ·exact⟨.inr (.inr ⟨by simp,ch,hok.st _ _⟩),h2⟩
 ·rw[if_neg h3];exact h
theorem push_st(v:Int)(s:Tk×ν):(push V v s).1.st=s.1.st∨(push V v s).1.st=5:=by
 unfold push
 split
 ·unfold trap;split
  ·exact .inl rfl
  ·exact .inr rfl
 ·exact .inl rfl
theorem trap_st(n:Int)(s:Tk×ν):(trap V n s).1.st=s.1.st∨(trap V n s).1.st=5:=by
 unfold trap;split
 ·exact .inl rfl
 ·exact .inr rfl
theorem pushN_st:∀(n:Nat) (s:Tk×ν),(pushN V n s).1.st=s.1.st∨(pushN V n s).1.st=5
 |0,s=> .inl rfl
 |n+1,s=>by
  unfold pushN;rcases pushN_st n (push V 0 s)with h|h
  ·rw[h];exact push_st hC hV 0 s
  ·exact .inr h
def StP(n:Int)(r:Tk×ν):Prop:=r.1.st=n∨r.1.st=5∨r.1.st=4
omit hC hV in
theorem StP.ite{n:Int}{c:Prop} [Decidable c]{a b:Tk×ν}(h1:StP n a)(h2:StP n b):StP n (if c then a else b):=by split<;>assumption
theorem exec_st(i:Ins)(s:Tk×ν):StP s.1.st (exec V M i s):=by
 have hp:∀v (r:Tk×ν),r.1.st=s.1.st→StP s.1.st (push V v r):=fun v r e=>by
  rcases push_st hC hV v r with h|h
  ·exact .inl (h.trans e)
  ·exact .inr (.inl h)
 have ht:∀v (r:Tk×ν),r.1.st=s.1.st→StP s.1.st (trap V v r):=fun v r e=>by
  rcases trap_st hC hV v r with h|h
  ·exact .inl (h.trans e)
  ·exact .inr (.inl h)
 have hn:∀n (r:Tk×ν),r.1.st=s.1.st→StP s.1.st (pushN V n r):=fun n r e=>by
  rcases pushN_st hC hV n r with h|h
  ·exact .inl (h.trans e)
  ·exact .inr (.inl h)
 have he:StP s.1.st (endU V s):=by
  unfold endU
  cases(cur s.1).up with
  |none=>exact .inr (.inr rfl)
  |some j=>exact hp _ _ rfl
 unfold exec callU ret startU resumeU yieldU aliveU;dsimp only
 repeat' (first|exact he|exact hp _ _ rfl|exact ht _ _ rfl|exact hn _ _ rfl|refine StP.ite ?_ ?_|exact .inl rfl|(refine .inl ?_;show(if _ then _ else _:Tk).st=_;split<;>rfl))
theorem step_good{r:Tk×ν}(h:Good M T K r):Good M T K (step V M r).2:=by
 unfold step;have hl:=look_good (V:=V) h;generalize hL:look V M r=r1 at *;simp only
 split
 ·exact hl
 ·rename_i hst
  have hst1:r1.1.st=1:=Classical.byContradiction hst;obtain⟨h1,hK⟩:=hl;have hok:∃ch,Ok M T r1.1 ch:=by
   rcases h1 with h|h|h
   ·omega
   ·omega
   ·exact h.2
  obtain⟨ch,hok⟩:=hok;have hw:((insT M r1.1).op=26→V.full r1.2 (insT M r1.1).a.toNat=false)∧((insT M r1.1).op=27→V.empty r1.2 (insT M r1.1).a.toNat=false):=by
   have hr3:r.1.st≤3:=by
    refine Int.not_lt.1 fun hlt=>?_
    unfold look at hL;rw[if_neg (by omega)]at hL;subst hL;omega
   unfold look at hL;rw[if_pos hr3]at hL;have hi:insT M r1.1=insT M r.1∧r1.2=r.2:=by
    rw[←hL];unfold waits
    split
    ·exact⟨rfl,rfl⟩
    split
    ·exact⟨rfl,rfl⟩
    ·exact⟨rfl,rfl⟩
   rw[hi.1,hi.2];unfold waits at hL
   by_cases c1:(insT M r.1).op=26∧V.full r.2 (insT M r.1).a.toNat=true
   ·rw[if_pos c1]at hL;subst hL;simp at hst1
   ·rw[if_neg c1]at hL
    by_cases c2:(insT M r.1).op=27∧V.empty r.2 (insT M r.1).a.toNat=true
    ·rw[if_pos c2]at hL;subst hL;simp at hst1
    ·refine⟨fun ho=>?_,fun ho=>?_⟩
     ·cases hx:V.full r.2 (insT M r.1).a.toNat with
      |false=>rfl
      |true=>exact absurd ⟨ho,hx⟩ c1
     ·cases hx:V.empty r.2 (insT M r.1).a.toNat with
      |false=>rfl
      |true=>exact absurd ⟨ho,hx⟩ c2
  have hres:=exec_res hC hV hok hK hw;have hest:=exec_st hC hV (insT M r1.1) (setPc ((topF (cur r1.1)).pc+1) r1.1,r1.2);refine look_good (V:=V) ⟨?_,hres.2⟩;rcases hres.1 with h|h|h
  ·exact .inl h
  ·exact .inr (.inl h)
  ·rcases hest with e|e|e
   ·refine .inr (.inr ⟨?_,h⟩);rw[e];show r1.1.st≤3;omega
   ·exact .inl e
   ·exact .inr (.inl e)
end
theorem new_ok{M:Mdl}{T:Nat→Int→Option Shape}(hC:Certs M T){u:Nat}(hu:u<M.units.length)(hk:(unt M u).kind=4):Ok M T (new M u) [0]:=by
 have hh:=head_facts (unt_head hC hu);have hp:(unt M u).params.toNat=0:=by
  have h:=unt_head hC hu;unfold Ver.head at h
  by_cases e1:(unt M u).kind≠2∧(unt M u).kind≠3∧(unt M u).kind≠4
  ·rw[if_pos e1]at h;cases h
  rw[if_neg e1]at h
  by_cases e2:200<(unt M u).locals.length∨(unt M u).params<0∨6<(unt M u).params∨((unt M u).locals.length:Int)<(unt M u).params∨((unt M u).kind=4∧0<(unt M u).params)
  ·rw[if_pos e2]at h;cases h
  omega
 have hco:∀k,k<(new M u).cs.length→k=0:=fun k h=>by simp[new]at h;omega
 have hco0:co (new M u) 0={begin M u []with st:=2}:=rfl;have hst:Stk M T (gsOf (new M u)) [⟨u,0,0⟩] (begin M u []).ws []:=by
  refine .one (start_seg hC hu (a:=[]) ?_ (by simp[begin]) (fun j hj=>by omega) (fun v hv=>?_))
  ·rw[hp];exact .nil
  ·simp only[begin,List.mem_map]at hv;obtain⟨j, -,rfl⟩:=hv;simp[In64]
 refine⟨rfl,by simp[new],by simp,fun k hk=>by simp at hk;subst hk;simp[new],fun k hk'=>?_,fun i k h=>?_,fun i k h _=>?_,hst,fun i d k h1 h2=>?_,fun k hk' h0=>?_,fun k hk' h0=>?_,fun k hk'=>?_,fun k hk'=>?_,fun k hk'=>?_⟩
 ·obtain rfl:=hco k hk';rw[hco0];simp
 ·cases i with
  |zero=>simp at h;subst h;rfl
  |succ i=>simp at h
 ·cases i with
  |zero=>simp at h;exact h.symm
  |succ i=>simp at h
 ·simp at h2
 ·obtain rfl:=hco k hk';rw[hco0]at h0;cases h0
 ·obtain rfl:=hco k hk';rw[hco0]at h0;cases h0
 ·obtain rfl:=hco k hk';rw[hco0];refine⟨?_,by simp[begin]⟩;show(begin M u []).ws.length≤400;simp[begin];omega
 ·obtain rfl:=hco k hk';rw[hco0];exact⟨hu,by rw[if_pos rfl];exact hk⟩
 ·obtain rfl:=hco k hk';rw[hco0];simp
abbrev wl(t:Tk):Nat:=(cur t).ws.length
abbrev topW(t:Tk)(n:Nat):Int:=(cur t).ws.getD (wl t-n) 0
structure CanU(M:Mdl)(t:Tk)(i:Ins):Prop where
 a0:0≤i.a
 lt:i.a.toNat<M.units.length
 p0:0≤(unt M i.a.toNat).params
 pl:(unt M i.a.toNat).params.toNat≤wl t
 pL:(unt M i.a.toNat).params.toNat≤(unt M i.a.toNat).locals.length
 few:(unt M i.a.toNat).locals.length≤200
structure CanT(M:Mdl)(t:Tk)(i:Ins):Prop where
 one:i.op=4∨i.op=5∨i.op=6∨i.op=7∨i.op=22∨i.op=26∨i.op=28→0<wl t
 two:8≤i.op∧i.op≤20→2≤wl t∧In64 (topW t 1)∧In64 (topW t 2)∧(18<i.op→(topW t 1=0∨topW t 1=1)∧(topW t 2=0∨topW t 2=1))
 load:i.op=3→0≤i.a∧(topF (cur t)).base+i.a.toNat<wl t
 store:i.op=4→0≤i.a∧(topF (cur t)).base+i.a.toNat<wl t-1
 jump:i.op=21∨i.op=22→0≤i.a
 box:i.op=26∨i.op=27→0≤i.a∧i.a.toNat<M.boxes.length
 unit:i.op=23∨i.op=29→CanU M t i
 ret:i.op=24→0<wl t∧(topF (cur t)).base≤wl t-1
 fin:i.op=25→∀j,(cur t).up=some j→t.now≠j∧j<t.cs.length
 res:i.op=30→2≤wl t∧0≤topW t 2∧(topW t 2).toNat<t.cs.length
 yld:i.op=31→0<wl t∧∃j,(cur t).up=some j∧t.now≠j∧j<t.cs.length
 alv:i.op=32→0<wl t∧0≤topW t 1∧(topW t 1).toNat<t.cs.length
 op:1≤i.op∧i.op≤32
 a64:In64 i.a
structure StandT(M:Mdl)(t:Tk):Prop where
 fr:(cur t).fr≠[]
 fr40:(cur t).fr.length≤40
 ws:(cur t).ws.length≤400
 unit:(topF (cur t)).unit<M.units.length
 pc:(topF (cur t)).pc<(unt M (topF (cur t)).unit).code.length
 pc4:(topF (cur t)).pc≤100000
 now:t.now<t.cs.length
 few:t.cs.length≤31
 st:(cur t).st=2
 box:(insT M t).op=26∨(insT M t).op=27→0≤(insT M t).a∧(insT M t).a.toNat<M.boxes.length
 lens:∀k,k<t.cs.length→(t.cs.getD k default).ws.length≤400
 sts:∀k,k<t.cs.length→(t.cs.getD k default).st≤3
theorem snT1{a b c:List Int}{v:Int}{n:Nat}(hn:(a ++(b ++(c ++[v]))).length=n):(a ++(b ++(c ++[v]))).getD (n-1) 0=v:=by
 subst hn;have e:a ++(b ++(c ++[v]))=(a ++(b ++c)) ++[v]:=by simp
 rw[e];exact snoc_getZ _ _
theorem snT2{a b c:List Int}{x y:Int}{n:Nat}(hn:(a ++(b ++(c ++[x,y]))).length=n):(a ++(b ++(c ++[x,y]))).getD (n-2) 0=x:=by
 subst hn;have e:a ++(b ++(c ++[x,y]))=(a ++(b ++c)) ++[x,y]:=by simp
 rw[e,Jd,List.getElem?_append_right (by simp;omega)];have e2:(a ++(b ++c) ++[x,y]).length-2-(a ++(b ++c)).length=0:=by simp only[Jl,JW,List.length_nil];omega
 rw[e2];rfl
section
variable{M:Mdl}{T:Nat→Int→Option Shape}{t:Tk}{ch:List Nat}
theorem unit_of{q:Int}{k:Int}(hC:Certs M T)(h:Ver.isUnit M q k=true):0≤q∧q.toNat<M.units.length∧0≤(unt M q.toNat).params∧(unt M q.toNat).params.toNat≤(unt M q.toNat).locals.length∧(unt M q.toNat).locals.length≤200:=by
 unfold Ver.isUnit at h;simp only[JX,JV]at h;obtain⟨⟨h1,h2⟩, -⟩:=h;have hlt:q.toNat<M.units.length:=by omega
 have hh:=unt_head hC (k:=q.toNat) hlt;have hf:=head_facts hh;have hp:0≤(unt M q.toNat).params:=by
  unfold Ver.head at hh
  split at hh
  ·cases hh
  split at hh
  ·cases hh
  omega
 exact⟨h1,hlt,hp,hf.1,hf.2.1⟩
theorem standT_of(hC:Certs M T)(hok:Ok M T t ch):StandT M t:=by
 obtain⟨fs0,ws0,q,p,st,hh,loc,op,a⟩:=hok.at_;obtain⟨st',h',hr⟩:=a.here hC;have hn:=hok.nowlt;have hln:=hok.lens _ hn;rw[←cur_co]at hln;have hin:t.now∈ch:=List.mem_of_getElem? hok.now;refine⟨?_,hln.2,hln.1,by rw[a.top];exact a.hq,by rw[a.top];exact hr.lt,?_,hn,hok.few,(hok.going _ hn).2 hin,fun h=>?_,fun k hk=>(hok.lens k hk).1,fun k hk=>hok.sts k hk⟩
 ·rw[a.fr];simp
 ·rw[a.top];show p≤100000;have hh:=unt_head hC a.hq;have hlt:=hr.lt;unfold Ver.head at hh
  split at hh
  ·cases hh
  split at hh
  ·cases hh
  split at hh
  ·cases hh
  omega
 ·have:=hr.ok.box h;omega
theorem canT_of(hC:Certs M T)(hok:Ok M T t ch):CanT M t (insT M t):=by
 obtain⟨fs0,ws0,q,p,st,hh,loc,op,a⟩:=hok.at_;obtain⟨st',h',hr⟩:=a.here hC;have hn:=hok.nowlt;have hws:=a.ws;have hf:=a.top;generalize insT M t=i at *;have hlive:ws0.length+(loc.length+op.length)=wl t:=by
  show _=(cur t).ws.length;rw[hws];simp
 have hll:=a.loc.len;have hol:=a.op.len;have hio:=hr.ok;have hk1:topW t 1=(ws0 ++(loc ++op)).getD (wl t-1) 0:=by show(cur t).ws.getD _ _=_;rw[hws]
 have hk2:topW t 2=(ws0 ++(loc ++op)).getD (wl t-2) 0:=by show(cur t).ws.getD _ _=_;rw[hws]
 have hlen:(ws0 ++(loc ++op)).length=wl t:=by simpa using hlive
 have hup:(cur t).up=ch[1]?:=hok.chain 0 t.now hok.now;have hupl:∀j,(cur t).up=some j→t.now≠j∧j<t.cs.length:=fun j hj=>by
  rw[hup]at hj;exact⟨hok.ne1 hj,hok.mem _ (List.mem_of_getElem? hj)⟩
 refine⟨fun h=>?_,fun h=>?_,fun h=>?_,fun h=>?_,fun h=>(hio.jump h).1,fun h=>?_,fun h=>?_,fun h=>?_,fun h=>hupl,fun h=>?_,fun h=>?_,fun h=>?_,hio.op,hr.in64.2⟩
 ·have:0<op.length:=by
   rw[←hol]
   cases hr.does with
   |_=>first|(exfalso;omega)|(simp;done)
  omega
 ·have hk:∃s1 t1 t2,st=s1 ++[t1,t2]∧(18<i.op→t1=2∧t2=2):=by
   cases hr.does with
   |arith s1 _ _=>exact⟨s1,1,1,rfl,fun h=>by omega⟩
   |eq s1 _ ty _ _=>exact⟨s1,ty,ty,rfl,fun h=>by omega⟩
   |cmp s1 _ _=>exact⟨s1,1,1,rfl,fun h=>by omega⟩
   |logic s1 _ _=>exact⟨s1,2,2,rfl,fun _=>⟨rfl,rfl⟩⟩
   |_=>exfalso;omega
  obtain⟨s1,t1,t2,e,hb⟩:=hk;have ht:=a.op;rw[e]at ht;obtain⟨op1,y,e1,g1,g2⟩:=ht.split;obtain⟨x,y,rfl,hx,hy⟩:=g2.un2;subst e1;have k1:topW t 1=y:=by
   rw[hk1];have:=snT1 (a:=ws0) (b:=loc) (c:=op1 ++[x]) (v:=y) (n:=wl t) (by simpa using hlive);rw[Jt]at this;rw[show [x] ++[y]=[x,y]from rfl]at this;exact this
  have k2:topW t 2=x:=by rw[hk2,snT2 hlen]
  rw[k1,k2];exact⟨by simp at hlive;omega,hy.1,hx.1,fun h18=>⟨hy.2.1 (hb h18).2,hx.2.1 (hb h18).1⟩⟩
 ·have h1:=hio.loc (.inl h);rw[hf];refine⟨h1.1,?_⟩;show ws0.length+i.a.toNat<wl t;omega
 ·have h1:=hio.loc (.inr h);rw[hf];refine⟨h1.1,?_⟩;show ws0.length+i.a.toNat<wl t-1;have:0<op.length:=by
   rw[←hol]
   cases hr.does with
   |store _ _ _=>simp
   |_=>exfalso;omega
  omega
 ·have h1:=hio.box h;omega
 ·have hk:∃k,Ver.isUnit M i.a k=true:=by
   rcases h with h|h
   ·exact⟨_,hio.call h⟩
   ·exact⟨_,hio.start h⟩
  obtain⟨k,hk⟩:=hk;obtain⟨c1,c2,c3,c4,c5⟩:=unit_of hC hk;refine⟨c1,c2,c3,?_,c4,c5⟩;have hp:(unt M i.a.toNat).params.toNat≤op.length:=by
   have key:∀(s:List Int) (u:ImgM.Unt),u.params.toNat≤u.locals.length→u.params.toNat≤(s ++u.locals.take u.params.toNat).length:=fun s u h=>by
    rw[Jl,List.length_take];omega
   rw[←hol]
   cases hr.does with
   |call _ _ _=>exact key _ _ c4
   |start _ _ _=>exact key _ _ c4
   |_=>exfalso;omega
  omega
 ·have h1:op.length=1:=by
   rw[←hol]
   cases hr.does with
   |ret _ _ _=>rfl
   |_=>exfalso;omega
  refine⟨by omega,?_⟩;rw[hf];show ws0.length≤wl t-1;omega
 ·have hk:∃s1 g t,st=s1 ++[10+g,t]∧Ver.handle M (10+g)=true:=by
   cases hr.does with
   |resume s1 _ g _ hg=>exact⟨s1,g,_,rfl,hg⟩
   |_=>exfalso;omega
  obtain⟨s1,g,t2,e,hg⟩:=hk;have ht:=a.op;rw[e]at ht;obtain⟨op1,y,e1,g1,g2⟩:=ht.split;obtain⟨x,y,rfl,hx,hy⟩:=g2.un2;subst e1;have hg0:10≤10+g:=by
   unfold Ver.handle at hg;rw[JX,JV]at hg;exact hg.1
  obtain⟨k,rfl,hk,hgk,hk0⟩:=hx.2.2 hg0;rw[gsOf_len]at hk;have e2:topW t 2=(k:Int):=by rw[hk2,snT2 hlen]
  rw[e2];exact⟨by simp at hlive;omega,by omega,by rw[Jj];exact hk⟩
 ·have hk:∃s1 t,st=s1 ++[t]∧(unt M q).kind=3:=by
   cases hr.does with
   |yield s1 _ _ hk=>exact⟨s1,_,rfl,hk⟩
   |_=>exfalso;omega
  obtain⟨s1,ty,e,hk3⟩:=hk;have hb0:=hok.kinds _ hn;rw[←cur_co]at hb0;have hbot:=alone_bot hok a (by omega);have hn0:t.now≠0:=fun e=>by rw[hbot,if_pos e,hk3]at hb0;omega
  refine⟨?_,?_⟩
  ·rw[e]at hol;simp at hol;omega
  ·cases hj:ch[1]? with
   |none=>exact absurd (hok.root 0 t.now hok.now hj) hn0
   |some j=>exact⟨j,by rw[hup,hj],hupl j (by rw[hup,hj])⟩
 ·have hk:∃s1 g,st=s1 ++[10+g]∧Ver.handle M (10+g)=true:=by
   cases hr.does with
   |alive s1 _ g _ hg=>exact⟨s1,g,rfl,hg⟩
   |_=>exfalso;omega
  obtain⟨s1,g,e,hg⟩:=hk;have ht:=a.op;rw[e]at ht;obtain⟨op1,y,e1,g1,g2⟩:=ht.split;obtain⟨x,rfl,hx⟩:=g2.un1;subst e1;have hg0:10≤10+g:=by
   unfold Ver.handle at hg;rw[JX,JV]at hg;exact hg.1
  obtain⟨k,rfl,hk,hgk,hk0⟩:=hx.2.2 hg0;rw[gsOf_len]at hk;have e2:topW t 1=(k:Int):=by rw[hk1,snT1 hlen]
  rw[e2];exact⟨by simp at hlive;omega,by omega,by rw[Jj];exact hk⟩
end
end Go.Proofs.YtjehflelkpacfaaGreat.Vm
namespace Go.Proofs.YtjehflelkpacfaaGreat
open Go Go.RowKit
section
variable{P:Program} [Tabbed P]{Q:Exit→Act→World→Prop}{N:Nat}{E:Env}{L L':List Chunk}
variable{dst:Option Tmp}{ty:TypeId}{pos:String}{aft:Array Edge}{g:Option (Nat×Bool)}
theorem OpT.copyZ{t e:TypeId}{x y:Operand}{ao xo:Option Addr}{n cap m c s' b' s2 b2:Nat}{d2:TyD}{z' z2:List Value}{l l2:List Int}{C:Env→List Chunk→Prop}
  (hx:ev E x=some (.slice ao n cap)) (hy:ev E y=some (.slice xo m c)) (ht:tyOf P t=some ⟨.slice e,s',b',z'⟩) (he:tyOf P e=some ⟨d2,s2,b2,z2⟩) (hs2:s2=1) (hm:Take (arr ao n cap e i64c l) L L') (hr:Rdb L' xo m c i64c l2) (hmn:m≤n) (hd:fitsB N dst=true)
  (k:C (upd dst (.int .i64 (m:Int)) E) (arr ao n cap e i64c (l2 ++l.drop m)::L')):OpT P Q N ⟨dst, .call ⟨.builtin .copy, #[x,y], #[t,t]⟩,ty,pos,aft,g⟩ E L C:=fun K hK A w hS hM=>by
 have hM':=hM.take hm;obtain⟨hown,hln⟩:=arr_holds.1 (hM.has hm);obtain⟨hrow,hl2⟩:=hr w (hM'.sub (List.sublist_cons_self _ _));obtain⟨xi,z,h3,h4, -⟩:=(tyOk he).info;have hi:(P.info? e).map (·.size)=some 1:=by rw[h3];simp[h4,hs2]
 have hmx:=hrow.2.1;subst hs2
 by_cases h0:m=0
 ·subst h0;have hrun:=run_copy_none (P:=P) w t t ty e ao xo n cap 0 c (tyOk ht).slice hi (by simp);obtain rfl:l2=[]:=List.eq_nil_of_length_eq_zero hl2;unfold Oper.wp;have hr':(execOp A.eval ⟨dst, .call ⟨.builtin .copy, #[x,y], #[t,t]⟩,ty,pos,aft,g⟩).run P w= .ok (.value (goInt 0)) w:=by
   simp only[execOp,resolve,invoke,builtin,Sem.run_bind,Sem.run_pure,Result.andThen_ok,List.map_toArray,List.map_cons,List.map_nil,hS.ev hx,hS.ev hy,hrun]
  rw[hr'];refine hK _ _ k _ _ (hS.put _ hd) ?_;simpa using hM'
 ·have hcap0:0<cap:=by have:=hown.le;omega
  have hown1:=hown.own hcap0;obtain⟨q1,ao',cap',q2,q3,q4,q5,q6⟩:=id hown1;simp only[Value.slice.injEq]at q2;obtain⟨rfl, -,rfl⟩:=q2
  cases ao with
  |none=>exact absurd (q5 rfl) (by omega)
  |some ad=>
  obtain⟨sp, -,cur,q8,q9,q10⟩:=q6 _ rfl;obtain⟨gb,o,sq⟩:=ad;simp only at sp q8 q9 q10;subst sp;obtain⟨-, -,xo',c',p2,p3,p4⟩:=hrow;simp only[Value.slice.injEq]at p2;obtain⟨rfl, -,rfl⟩:=p2;obtain⟨sb,so,rfl,p5⟩:=p4 (by omega);have hcs:(l2.flatMap i64c).length=m:=by rw[flatMap_len];simp[hl2,sz,i64c]
  have hsz:sz i64c=1:=rfl;rw[hsz]at q9 q10 p5;simp only[Nat.mul_one]at q9 q10 p5;have hrun:=run_copy_cells (P:=P) w t t ty e gb o n cap ⟨sb,so,none⟩ m c (l2.flatMap i64c) (tyOk ht).slice hi (by rw[hcs];exact(Nat.min_eq_left hmn).symm)
   (fun j v hj=>by
    have hjl:=(List.getElem?_eq_some_iff.1 hj).1;rw[Addr.add_lit',p5 j (by omega)];exact hj)
   (fun j hj=>by rw[hcs]at hj;rw[q8.cell];have:o+j<cur.size:=Nat.lt_of_lt_of_le (by omega) q9;simp[this]) (fun j hj=>q8.free _) (fun v hv=>one_all i64c l2 v hv)
  unfold Oper.wp;have hr':(execOp A.eval ⟨dst, .call ⟨.builtin .copy, #[x,y], #[t,t]⟩,ty,pos,aft,g⟩).run P w= .ok (.value (goInt (l2.flatMap i64c).length)) (w.setCells gb o (l2.flatMap i64c)):=by
   simp only[execOp,resolve,invoke,builtin,Sem.run_bind,Sem.run_pure,Result.andThen_ok,List.map_toArray,List.map_cons,List.map_nil,hS.ev hx,hS.ev hy,hrun]
  rw[hr',hcs];have hb2:=q8.setCells (l2.flatMap i64c) o (by omega);refine hK _ _ k _ _ (hS.put _ hd) (hM'.turn (Keeps.setCells (S:=fun c=>c=gb) _ _ (Keeps.refl _ _) (fun _=>rfl)) arr_excl (fun c hc _=>arr_foot.2 ⟨by rw[hc];rfl,hcap0⟩) (arr_holds.2 ⟨Own0.of ?_,by simp;omega⟩) (fun c hc=> .inl (arr_foot.2 (arr_foot.1 hc))));refine⟨by rw[flatMap_len,Jl,List.length_drop,hl2,hln];congr 1;omega,_,cap,rfl,q3,q4,(fun h=>by cases h),fun ad had=>?_⟩
  cases had
  refine⟨rfl,Nat.zero_le _,_,hb2,?_,?_⟩
  ·simp only[List.size_toArray,Jl,List.length_take,List.length_drop,Array.length_toList,hsz,hcs];omega
  ·simp only[hsz,Nat.mul_one];rw[List.flatMap_append];have e1:(l.drop m).flatMap i64c=((cur.toList.drop o).take n).drop m:=by
    rw[q10];have:=flatMap_drop (f:=i64c) l m;rw[←this,hsz,Nat.mul_one]
   rw[e1];have hcl:o≤cur.toList.length:=by simp;omega
   rw[Jt];rw[show List.drop o (cur.toList.take o ++(l2.flatMap i64c ++cur.toList.drop (o+(l2.flatMap i64c).length)))=l2.flatMap i64c ++cur.toList.drop (o+(l2.flatMap i64c).length) by
    rw[List.drop_append_of_le_length (by simp;omega),List.drop_of_length_le (by simp;omega)];rfl]
   rw[List.take_append,hcs,List.take_of_length_le (by omega)];congr 1;rw[List.drop_take,List.drop_drop]
theorem OpT.copyZ_{t e:TypeId}{x y:Operand}{ao xo:Option Addr}{n cap m c s' b' s2 b2:Nat}{d2:TyD}{z' z2:List Value}{l l2:List Int}{C:Env→List Chunk→Prop}
  (hx:ev E x=some (.slice ao n cap):=by exact rfl) (hy:ev E y=some (.slice xo m c):=by exact rfl) (ht:tyOf P t=some ⟨.slice e,s',b',z'⟩:=by exact rfl) (he:tyOf P e=some ⟨d2,s2,b2,z2⟩:=by exact rfl) (hs2:s2=1:=by exact rfl) (hm:Take (arr ao n cap e i64c l) L L':=by((repeat(first|exact Take.head|apply Take.tail));first|done|fail)) (hr:Rdb L' xo m c i64c l2:=by exact Jr) (hmn:m≤n:=by omega) (hd:fitsB N dst=true:=by exact rfl)
  (k:C (upd dst (.int .i64 (m:Int)) E) (arr ao n cap e i64c (l2 ++l.drop m)::L')):OpT P Q N ⟨dst, .call ⟨.builtin .copy, #[x,y], #[t,t]⟩,ty,pos,aft,g⟩ E L C:=OpT.copyZ hx hy ht he hs2 hm hr hmn hd k
section
variable{α:Type}{iα:Inhabited α}{ao:Option Addr}{n cap:Nat}{e:TypeId}{f:α→List Value}{ef:Enc f}{l:List α}
theorem OpT.cutV{t:TypeId}{s' b' s2 b2 lo hi:Nat}{d2:TyD}{z' z2:List Value}{x:Operand}{ol oh:Option Operand}{C:Env→List Chunk→Prop}(hx:ev E x=some (.slice ao n cap))(ht:tyOf P t=some ⟨.slice e,s',b',z'⟩)(he:tyOf P e=some ⟨d2,s2,b2,z2⟩)
  (hr:Rdb L ao n cap f l) (hs2:s2=sz f) (hb:Bnd E n ol oh lo hi) (h1:lo≤hi) (h2:hi≤n) (hd:fitsB N dst=true)
  (k:∀ao' cap',(∀L'':List Chunk,Rdb L'' ao n cap f l→Rdb L'' ao' (hi-lo) cap' f ((l.take hi).drop lo))→C (upd dst (.slice ao' (hi-lo) cap') E) L):OpT P Q N ⟨dst, .slice t x ol oh none,ty,pos,aft,g⟩ E L C:=fun K hK A w hS hM=>by
 obtain⟨hrow,hln⟩:=hr w hM;have hcap:n≤cap:=by
  obtain⟨-, -,ao',cap',g2,g3, -⟩:=hrow;simp only[Value.slice.injEq]at g2;obtain⟨-, -,rfl⟩:=g2;exact g3
 unfold Oper.wp;rw[run_cut hS hx ht he hb h1 (by omega) w];subst hs2;exact hK _ _ (k _ _ (fun L'' hr' w' hM'=>⟨Row.sub (hr' w' hM').1 (hr' w' hM').2 h1 h2,by simp;omega⟩)) _ _ (hS.put _ hd) hM
end
theorem Still.imin{x y:Operand}{k:IntKind}{a b z:Int}{tt:TypeId}(hx:ev E x=some (.int k a))(hy:ev E y=some (.int k b))(hz:(if b<a then b else a)=z):Still P N ⟨dst, .call ⟨.builtin .min, #[x,y], #[tt,tt]⟩,ty,pos,aft,g⟩ E L (.int k z):=fun A w hs _=>by
 subst hz;simp[execOp,resolve,invoke,builtin,hs.ev hx,hs.ev hy,Builtin.min_,Builtin.min2]
theorem Still.imax{x y:Operand}{k:IntKind}{a b z:Int}{tt:TypeId}(hx:ev E x=some (.int k a))(hy:ev E y=some (.int k b))(hz:(if a<b then b else a)=z):Still P N ⟨dst, .call ⟨.builtin .max, #[x,y], #[tt,tt]⟩,ty,pos,aft,g⟩ E L (.int k z):=fun A w hs _=>by
 subst hz;simp[execOp,resolve,invoke,builtin,hs.ev hx,hs.ev hy,Builtin.max_,Builtin.max2]
theorem OpT.cutV_{α:Type}{iα:Inhabited α}{ao:Option Addr}{n cap:Nat}{e:TypeId}{f:α→List Value}{ef:Enc f}{l:List α}{t:TypeId}{s' b' s2 b2 lo hi:Nat}{d2:TyD}{z' z2:List Value}{x:Operand}{ol oh:Option Operand}{C:Env→List Chunk→Prop}(hx:ev E x=some (.slice ao n cap):=by exact rfl)(ht:tyOf P t=some ⟨.slice e,s',b',z'⟩:=by exact rfl)(he:tyOf P e=some ⟨d2,s2,b2,z2⟩:=by exact rfl)
  (hr:Rdb L ao n cap f l:=by exact Jr) (hs2:s2=sz f:=by exact rfl) (hb:Bnd E n ol oh lo hi:=by(first|exact Bnd.all|(apply Bnd.lo;exact rfl;(first|exact ix_succ _|exact(rfl:(0:Int)=((0:Nat):Int))|exact rfl|(refine(Jo' ?_).symm;omega)))|(apply Bnd.hi;exact rfl;(first|exact ix_succ _|exact(rfl:(0:Int)=((0:Nat):Int))|exact rfl|(refine(Jo' ?_).symm;omega)))|(apply Bnd.both;exact rfl;(first|exact ix_succ _|exact(rfl:(0:Int)=((0:Nat):Int))|exact rfl|(refine(Jo' ?_).symm;omega));exact rfl;(first|exact ix_succ _|exact(rfl:(0:Int)=((0:Nat):Int))|exact rfl|(refine(Jo' ?_).symm;omega))))) (h1:lo≤hi:=by omega) (h2:hi≤n:=by omega) (hd:fitsB N dst=true:=by exact rfl)
  (k:∀ao' cap',(∀L'':List Chunk,Rdb L'' ao n cap f l→Rdb L'' ao' (hi-lo) cap' f ((l.take hi).drop lo))→C (upd dst (.slice ao' (hi-lo) cap') E) L):OpT P Q N ⟨dst, .slice t x ol oh none,ty,pos,aft,g⟩ E L C:=OpT.cutV hx ht he hr hs2 hb h1 h2 hd k
end
section
variable{P:Program} [Tabbed P]{Q:Exit→Act→World→Prop}{N:Nat}{E:Env}{L L':List Chunk}
variable{α:Type}{iα:Inhabited α}{ao:Option Addr}{n cap:Nat}{e:TypeId}{f:α→List Value}{ef:Enc f}{l:List α}
variable{dst:Option Tmp}{ty:TypeId}{pos:String}{aft:Array Edge}{g:Option (Nat×Bool)}
def cutA3(ao:Option Addr)(n s:Nat):Option Addr:=if n=0 then ao else ao.map (·.add (0*s))
theorem Still.cut3{t:TypeId}{s' b' s2 b2:Nat}{d2:TyD}{z' z2:List Value}{x oh om:Operand}{kh km:IntKind}(hx:ev E x=some (.slice ao n cap))(ht:tyOf P t=some ⟨.slice e,s',b',z'⟩)(he:tyOf P e=some ⟨d2,s2,b2,z2⟩)
  (hh:ev E oh=some (.int kh (n:Int))) (ho:ev E om=some (.int km (n:Int))) (hcap:n≤cap) (hs2:s2=sz f):Still P N ⟨dst, .slice t x none (some oh) (some om),ty,pos,aft,g⟩ E L (.slice (cutA3 ao n (sz f)) n n):=fun A w hS hM=>by
 have hsz:=(tyOk he).size w;have hu:=(tyOk ht).slice;have hel:P.elem t=e:=by unfold Program.elem;rw[hu]
 have hu':P.underlying t=some (.slice (P.elem t)):=by rw[hel];exact hu
 subst hs2;simp only[execOp,hS.ev hx,hS.ev hh,hS.ev ho,Option.map_none,Option.map_some,Sem.run_bind];rw[run_sliceAt_slice _ _ _ _ _ _ hu',run_slice_hm w t ao n cap hu' _ _ _ _ (by omega) (by omega) (by omega),hel,hsz];simp only[Jj];rfl
theorem Mem.cut3{w:World}(hM:Mem w L)(hm:Take (arr ao n cap e f l) L L'):Mem w (arr (cutA3 ao n (sz f)) n n e f l::L'):=by
 obtain⟨hown,hln⟩:=arr_holds.1 (hM.has hm);have hcap:n≤cap:=hown.le;refine(hM.take hm).turn (S:=Nil) (Keeps.refl _ _) arr_excl (fun _ h _=>h.elim) (arr_holds.2 ⟨?_,hln⟩) (fun c hc=> .inl (arr_foot.2 ?_))
 ·by_cases hn:n=0
  ·subst hn;rw[List.eq_nil_of_length_eq_zero hln];exact .inl ⟨rfl,rfl,rfl⟩
  ·unfold cutA3;rw[if_neg hn];have h1:=(hown.own (by omega)).sub hln (Nat.zero_le n) (Nat.le_refl n);rw[if_neg (by omega),List.drop_zero,List.take_of_length_le (by omega),Nat.sub_zero,Nat.sub_zero]at h1;refine Own0.of ?_;obtain⟨g1,ao',cap',g2,g3,g4,g5,g6⟩:=h1;simp only[Value.slice.injEq]at g2;obtain⟨rfl, -,rfl⟩:=g2;refine⟨g1,_,_,rfl,Nat.le_refl _,by omega,fun hn=>by have:=g5 hn;omega,fun ad had=>?_⟩;obtain⟨q1,q2,cur,q3,q4,q5⟩:=g6 _ had;exact⟨q1,q2,cur,q3,Nat.le_trans (Nat.add_le_add_left (Nat.mul_le_mul_right _ g3) _) q4,q5⟩
 ·have h0:0<n:=(arr_foot.1 hc).2;have this:=(arr_foot.1 hc).1;refine⟨?_,Nat.lt_of_lt_of_le h0 hcap⟩;unfold cutA3 at this;rw[if_neg (Nat.pos_iff_ne_zero.1 h0)]at this
  cases ao with
  |none=>simp[Value.ownBlock]at this
  |some a0=>
   simp only[Value.ownBlock,Option.map_some,Option.some.injEq]at this⊢;rw[←this];unfold Addr.add
   split<;>rfl
end
end Go.Proofs.YtjehflelkpacfaaGreat
namespace Go.Proofs.YtjehflelkpacfaaGreat
open Go
section
variable{P:Program}{Q:Exit→Act→World→Prop}{N:Nat}{E:Env}{L L':List Chunk}
variable{dst:Option Tmp}{ty:TypeId}{pos:String}{aft:Array Edge}{g:Option (Nat×Bool)}
def Finds(P:Program)(T:TypeId)(rv:Value)(name:String)(f:FuncId):Prop:=∀w,(method (P.types.size+Made.depth) T rv name).run P w= .ok (f,rv) w
theorem OpT.callM{σ:Type}{x:Operand}{name:String}{args:List Operand}{tys:Array TypeId}{T:TypeId}{rv:Value}{f:FuncId}{vs:List Value}
  {R pre F:List Chunk} {post:σ→Prop} {val:σ→Value} {mem:σ→List Chunk} {C:Env→List Chunk→Prop}
  (hx:ev E x=some (.iface T rv)) (hv:Evs E args vs) (hm:Finds P T rv name f) (hc:callB P f=true) (hd:fitsB N dst=true)
  (spec:Fn P f (rv::vs).toArray R pre post val mem) (t:Takes pre L F) (r:∀w,Reads w R F) (k:∀s,post s→C (upd dst (val s) E) (mem s ++F)):
  OpT P Q N ⟨dst, .call ⟨.invoke x name,args.toArray,tys⟩,ty,pos,aft,g⟩ E L C:=by
 intro K hK a w hs hM;have hr:(execOp a.eval ⟨dst, .call ⟨.invoke x name,args.toArray,tys⟩,ty,pos,aft,g⟩).run P w= .ok (.enter f (rv::vs).toArray) w:=by
  have e:args.toArray.map a.eval=vs.toArray:=by rw[←hs.evs hv];simp
  have e2: #[Value.iface T rv] ++vs.toArray=(Value.iface T rv::vs).toArray:=by simp
  have e3:(Value.iface T rv::vs).toArray.extract 1 (Value.iface T rv::vs).toArray.size=vs.toArray:=by simp
  have e4:(Value.iface T rv::vs).toArray[0]?=some (Value.iface T rv):=by simp
  have hm':=hm w;simp only[execOp,resolve,hs.ev hx,e,e2,Sem.run_bind,Sem.run_pure,Result.andThen_ok,invoke,e4,e3,callMethod,run_program,hm'];rw[run_callFunc hc];simp
 unfold Oper.wp;rw[hr,Oper.upon_enter];refine(spec w ((hM.takes t).reads (r w))).mono ?_;rintro e w' ⟨s,hp,rfl,hx,hm'⟩;exact hK _ _ (k s hp) _ _ (hs.put _ hd) ((hM.takes t).frame hm' hx)
theorem Still.mkIface{xT t:TypeId}{x:Operand}{v:Value}{s b:Nat}{z:List Value}{e:TypeId} [Tabbed P](hx:ev E x=some v)(ht:tyOf P xT=some ⟨.pointer e,s,b,z⟩):
  Still P N ⟨dst, .makeInterface xT x,ty,pos,aft,g⟩ E L (.iface xT v):=fun A w hs _=>by
 have:=(tyOk ht).pointer;simp[execOp,hs.ev hx,Instr.makeInterface,run_underlying this]
theorem Still.mkIfaceS{xT t:TypeId}{x:Operand}{v:Value}{s b:Nat}{z:List Value}{e:TypeId} [Tabbed P](hx:ev E x=some v)(ht:tyOf P xT=some ⟨.slice e,s,b,z⟩):
  Still P N ⟨dst, .makeInterface xT x,ty,pos,aft,g⟩ E L (.iface xT v):=fun A w hs _=>by
 have:=(tyOk ht).slice;simp[execOp,hs.ev hx,Instr.makeInterface,run_underlying this]
theorem OpT.callM_{σ:Type}{x:Operand}{name:String}{args:List Operand}{tys:Array TypeId}{T:TypeId}{rv:Value}{f:FuncId}{vs:List Value}
  {R pre F:List Chunk} {post:σ→Prop} {val:σ→Value} {mem:σ→List Chunk} {C:Env→List Chunk→Prop}
  (hm:Finds P T rv name f) (hc:callB P f=true) (spec:Fn P f (rv::vs).toArray R pre post val mem)
  (hx:ev E x=some (.iface T rv):=by exact rfl) (hv:Evs E args vs:=by exact evz) (hd:fitsB N dst=true:=by exact rfl)
  (t:Takes pre L F:=by exact tks) (r:∀w,Reads w R F:=by intro w;exact rds) (k:∀s,post s→C (upd dst (val s) E) (mem s ++F)):
  OpT P Q N ⟨dst, .call ⟨.invoke x name,args.toArray,tys⟩,ty,pos,aft,g⟩ E L C:=OpT.callM hx hv hm hc hd spec t r k
end
end Go.Proofs.YtjehflelkpacfaaGreat
