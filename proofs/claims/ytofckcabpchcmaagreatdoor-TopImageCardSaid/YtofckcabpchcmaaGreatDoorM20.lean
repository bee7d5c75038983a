/- A right module's task keeps what is known: generators; each step. Plain Lean. -/
import Derived.Test.YtofckcabpchcmaaGreatDoorM19
set_option linter.unusedVariables false
set_option linter.unusedSimpArgs false
set_option linter.unusedSectionVars false
set_option maxRecDepth 100000
namespace Go.Proofs.YtofckcabpchcmaaGreatDoor
namespace Vm
open ImgM Ver Opt
section
variable{M:aL}{T:Nat→Int→Option Shape}{t:Tk}{ch:List Nat}{fs0:List Fr}{ws0:List Int}{q p:Nat}{st:List Int}{hh:List Bool}{loc op:List Int}{i:aT}{st':List Int}{h':List Bool}
variable{ν:Type}{V:Env ν}{K:ν→Prop}(hC:gN M T)(hV:o9 V M K)(hok:Ok M T t ch)(a:At M T t fs0 ws0 q p st hh loc op)(hr:BO M T q p i st hh st' h'){s:ν}(hK:K s)
include hok a
theorem alone(hk:(bL M q).kind≠2):fs0=[]∧ws0=[]:=by
 rcases a.under with h|⟨h,h2⟩
 ·exact h
 ·exact absurd h2 hk
theorem H4(hk:(bL M q).kind≠2):bot (cur t).fr=q:=by
 obtain⟨rfl,rfl⟩:=alone hok a hk;rw[a.fr];rfl
theorem NX{f:Fr}{ws:List Int}(h:ws.length≤400):(cH (cur t) fs0 f ws).ws.length≤400∧(cH (cur t) fs0 f ws).fr.length≤40:=by
 have:=(hok.lens _ hok.jS).2;rw[←kP,a.fr]at this;refine⟨h,?_⟩;show(fs0 ++[f]).length≤40;simpa using this
theorem NW{pc:Nat}{ws:List Int}:bot (cH (cur t) fs0 ⟨q,pc,ws0.length⟩ ws).fr=bot (cur t).fr:=by
 rw[a.fr];exact H9 _ _ _ rfl
include hC hV hr hK
theorem aB7(ho:i.op=25):nU M T K (exec V M i (gX (p+1) t,s)):=by
 have hn:=hok.jS;rw[a.pc];have hwl:=uV hok a;unfold exec
 (repeat rw[if_neg aA]);rw[if_pos ho]
 have hup:=hok.chain 0 t.now hok.now;rw[←kP]at hup;have hb0:=hok.kinds _ hn;rw[←kP]at hb0
 cases hr.iD with
 |end_ h1 hi hk2=>
  have hbot:=H4 hok a hk2;have hbt:= @NW M T t ch fs0 ws0 q p _ _ loc op hok a (p+1) (ws0 ++(loc ++op));have hln:=NX hok a (f:=⟨q,p+1,ws0.length⟩) (ws:=ws0 ++(loc ++op)) (by simp;omega);unfold tO;simp only[nY hn,set_set];have e1:(cH (cur t) fs0 ⟨q,p+1,ws0.length⟩ (ws0 ++(loc ++op))).up=ch[1]?:=hup;rw[e1]
  cases hj:ch[1]? with
  |none=>exact⟨.inr (.inl rfl),hV.tell _ _ hK⟩
  |some j=>
   have hne:=hok.CV hj;have hjl:j<t.cs.length:=hok.mem _ (kO hj);have hn0:t.now≠0:=fun e=>by
    have hx:∀n m:Nat,ch.length=n→ch[m]?=some 0→m+1=n∨m+1<n:=fun n m hl hm=>by have:=(rE.1 hm).1;omega
    obtain⟨m,hm1⟩:∃m,ch.length=m+1:=⟨ch.length-1,by have:=(rE.1 hj).1;omega⟩;have hlast:∃k,ch[m]?=some k:=⟨_,Je aA⟩;obtain⟨k,hk⟩:=hlast;have hz:=hok.root m k hk (yZ aA);subst hz;have:=hok.now;rw[e]at this;have:=AN hok.nodup this hk;have:=(rE.1 hj).1;omega
   rw[if_neg hn0]at hb0;have hpl:=(zV (wJ hC hb0.1)).2.2 hb0.2;simp only;unfold push;have hcur:cur {setCur t {cH (cur t) fs0 ⟨q,p+1,ws0.length⟩ (ws0 ++(loc ++op))with st:=3,up:=none}with now:=j}=co t j:=by
    show co (fB t t.now _) j=co t j;rw[qK hn,if_neg hne]
   simp only[hcur]
   split
   ·exact uR hV hK
   ·rename_i h4
    have hl4:=(hok.lens j hjl).1;refine⟨.inr (.inr ⟨ch.tail,?_⟩),hK⟩;exact hok.back hj (c:={cH (cur t) fs0 ⟨q,p+1,ws0.length⟩ (ws0 ++(loc ++op))with st:=3,up:=none}) (.inl rfl) hbt hln (fun h=>by cases h) (aEc hpl.1) aA
 |_=>exfalso;omega
theorem aBh(ho:i.op=31):nU M T K (exec V M i (gX (p+1) t,s)):=by
 have hn:=hok.jS;rw[a.pc];have hwl:=uV hok a;have hon:=on hok a hr aA aA aA;unfold exec
 (repeat rw[if_neg aA]);rw[if_pos ho]
 have hup:=hok.chain 0 t.now hok.now;rw[←kP]at hup;have hb0:=hok.kinds _ hn;rw[←kP]at hb0
 cases hr.iD with
 |yield s1 h1 hi hk3=>
  have hk2:(bL M q).kind≠2:=aA;have hbot:=H4 hok a hk2;obtain⟨hf0,hw0⟩:=alone hok a hk2;have hn0:t.now≠0:=fun e=>by rw[hbot,if_pos e,hk3]at hb0;omega
  obtain⟨op1,v,e1,g1,g2⟩:∃op1 v,op=op1 ++[v]∧eZ (dJ t) s1 op1∧fY (dJ t) (bL M q).result v:=by
   obtain⟨x,y,e1,g1,g2⟩:=a.op.split;obtain⟨v,rfl,hv⟩:=g2.rX;exact⟨x,v,e1,g1,hv⟩
  obtain⟨hl,hd⟩:=rS hC hok a hr ⟨q,p+1,ws0.length⟩ e1;obtain⟨j,hj⟩:∃j,ch[1]?=some j:=by
   cases hj:ch[1]? with
   |none=>exact absurd (hok.root 0 t.now hok.now hj) hn0
   |some j=>exact⟨j,rfl⟩
  have hne:=hok.CV hj;have hjl:j<t.cs.length:=hok.mem _ (kO hj);have hbt:= @NW M T t ch fs0 ws0 q p _ _ loc op hok a (p+1) (ws0 ++(loc ++op1));have hlen1:(ws0 ++(loc ++op1)).length≤400:=by rw[e1]at hwl;simp at hwl⊢;omega
  have hln:=NX hok a (f:=⟨q,p+1,ws0.length⟩) (ws:=ws0 ++(loc ++op1)) hlen1;unfold D1;simp only[hl,hd,nY hn,set_set];have e2:(cH (cur t) fs0 ⟨q,p+1,ws0.length⟩ (ws0 ++(loc ++op1))).up.getD 0=j:=by
   show(cur t).up.getD 0=j;rw[hup,hj];rfl
  rw[e2];unfold push;have hcur:cur {setCur t {cH (cur t) fs0 ⟨q,p+1,ws0.length⟩ (ws0 ++(loc ++op1))with st:=1,up:=none}with now:=j}=co t j:=by
   show co (fB t t.now _) j=co t j;rw[qK hn,if_neg hne]
  simp only[hcur]
  split
  ·exact uR hV hK
  ·rename_i h4
   have hl4:=(hok.lens j hjl).1;refine⟨.inr (.inr ⟨ch.tail,?_⟩),hK⟩;refine hok.back hj (c:={cH (cur t) fs0 ⟨q,p+1,ws0.length⟩ (ws0 ++(loc ++op1))with st:=1,up:=none}) (.inr rfl) hbt hln (fun _=>?_) (by rw[hbot];exact g2) aA;show iT M T (dJ t) (fs0 ++[⟨q,p+1,ws0.length⟩]) (ws0 ++(loc ++op1)) [(bL M (bot (cH (cur t) fs0 ⟨q,p+1,ws0.length⟩ (ws0 ++(loc ++op1))).fr)).aP];rw[hbt,hbot];obtain⟨h2,t1,t2⟩:=hon;exact a.under.DM ⟨a.hq,s1,h2,loc,op1,t1,rfl,a.loc.le t2,g1⟩
 |_=>exfalso;omega
theorem aBc(ho:i.op=30):nU M T K (exec V M i (gX (p+1) t,s)):=by
 have hn:=hok.jS;rw[a.pc];have hwl:=uV hok a;have hon:=on hok a hr aA aA aA;unfold exec
 (repeat rw[if_neg aA]);rw[if_pos ho]
 cases hr.iD with
 |resume s1 h1 g hi hg=>
  obtain⟨op1,y,e1,g1,g2⟩:=a.op.split;obtain⟨x,y,rfl,hx,hy⟩:=g2.yQ;obtain⟨l1,d1⟩:=rS hC hok a hr ⟨q,p+1,ws0.length⟩ (op1:=op1 ++[x]) (v:=y) (by rw[e1];simp);have hw2:(cH (cur t) fs0 ⟨q,p+1,ws0.length⟩ (ws0 ++(loc ++(op1 ++[x])))).ws=(ws0 ++(loc ++op1)) ++[x]:=by
   show ws0 ++(loc ++(op1 ++[x]))=_;simp
  have l2:=FT hn hw2;have d2:=drop_set hn hw2 (n:=1) rfl;have hg0:10≤10+g:=by
   unfold handle at hg;rw[JX,JV]at hg;exact hg.1
  obtain⟨k,rfl,hk,hgk,hk0⟩:=hx.2.2 hg0;rw[zT]at hk;rw[aCJ t hk]at hgk;have hgt:g.toNat=bot (co t k).fr:=aA;unfold yC;simp only[l1,d1,l2,d2,Jj,aGM];obtain⟨c1,ec⟩:∃c1,c1=cH (cur t) fs0 ⟨q,p+1,ws0.length⟩ (ws0 ++(loc ++op1)):=⟨_,rfl⟩;have ec':({cH (cur t) fs0 ⟨q,p+1,ws0.length⟩ (ws0 ++(loc ++(op1 ++[(k:Int)])))with ws:=ws0 ++(loc ++op1)}:Co)=c1:=by rw[ec];rfl
  rw[ec'];have hlen1:(ws0 ++(loc ++op1)).length≤400:=by rw[e1]at hwl;simp at hwl⊢;omega
  have hln:=NX hok a (f:=⟨q,p+1,ws0.length⟩) (ws:=ws0 ++(loc ++op1)) hlen1;rw[←ec]at hln;have hbt:= @NW M T t ch fs0 ws0 q p _ _ loc op hok a (p+1) (ws0 ++(loc ++op1));rw[←ec]at hbt;have hc1:c1.st=(cur t).st∧c1.up=(cur t).up:=by rw[ec];exact⟨rfl,rfl⟩
  have hin:t.now∈ch:=kO hok.now;have hst2:(cur t).st=2:=(hok.going _ hn).2 hin;have hck:((setCur t c1).cs.getD k default).st=(co t k).st:=by
   show(co (fB t t.now c1) k).st=_;rw[qK hn]
   split
   ·rename_i e;subst e;exact hc1.1
   ·rfl
  split
  ·exact uR hV hK
  split
  ·exact uR hV hK
  ·rename_i h3 h2'
   rw[hck]at h3 h2';have hs3:=hok.bV k hk;have hk01:(co t k).st=0∨(co t k).st=1:=aA;have hknow:t.now≠k:=fun e=>by subst e;rw[←kP]at hk01;omega
   have hcok:(setCur t c1).cs.getD k default=co t k:=by
    show co (fB t t.now c1) k=_;rw[qK hn,if_neg hknow]
   rw[hcok];have hsw:iT M T (dJ t) c1.fr c1.ws [(bL M (bot (co t k).fr)).result]:=by
    obtain⟨h2,t1,t2⟩:=hon;rw[ec];refine a.under.DM ⟨a.hq,s1,h2,loc,op1,?_,rfl,a.loc.le t2,g1⟩;rw[←hgt];exact t1
   split
   ·rename_i h0
    refine⟨.inr (.inr ⟨k::ch,?_⟩),hK⟩;exact hok.S6 hk hk01 hc1.1 hc1.2 hbt hln hsw (ws:=(co t k).ws) (hok.fresh k hk h0) (hok.lens k hk).1
   ·rename_i h0
    have h1':(co t k).st=1:=aA;have hheld:=hok.held k hk h1';unfold push;have hk':k<(setCur t c1).cs.length:=by rw[oC];exact hk
    have hcur:cur {fB (setCur t c1) k {co t k with st:=2,up:=some t.now}with now:=k}={co t k with st:=2,up:=some t.now}:=by
     show co (fB (setCur t c1) k _) k=_;rw[qK hk',if_pos rfl]
    simp only[hcur]
    split
    ·exact uR hV hK
    ·rename_i h4
     have hl4:=(hok.lens k hk).1;have hset:setCur {fB (setCur t c1) k {co t k with st:=2,up:=some t.now}with now:=k} {co t k with st:=2,up:=some t.now,ws:=(co t k).ws ++[y]}={fB (setCur t c1) k {co t k with st:=2,up:=some t.now,ws:=(co t k).ws ++[y]}with now:=k}:=by
      unfold setCur fB;simp[List.set_set]
     refine⟨.inr (.inr ⟨k::ch,?_⟩),hK⟩;have hgo:=hok.S6 hk hk01 hc1.1 hc1.2 hbt hln hsw (ws:=(co t k).ws ++[y]) (hheld.KV (by rw[←hgt];exact hy)) (by simp;omega);rw[←hset]at hgo;exact hgo
 |_=>exfalso;omega
theorem aB5(ho:i.op=32):nU M T K (exec V M i (gX (p+1) t,s)):=by
 have hn:=hok.jS;rw[a.pc];have hpu:=fun{op1 s1 ty v}=>uI hV hok a hr aA aA aA (op1:=op1) (s1:=s1) (ty:=ty) (v:=v)
 unfold exec
 (repeat rw[if_neg aA]);rw[if_pos ho]
 cases hr.iD with
 |alive s1 h1 g hi hg=>
  obtain⟨op1,y,e1,g1,g2⟩:=a.op.split;obtain⟨x,rfl,hx⟩:=g2.rX;obtain⟨l1,d1⟩:=rS hC hok a hr ⟨q,p+1,ws0.length⟩ e1;unfold zH;simp only[l1,d1];exact hpu rfl g1 fY.bool a.loc hK (by rw[e1];simp)
 |_=>exfalso;omega
theorem aBf(ho:i.op=29):nU M T K (exec V M i (gX (p+1) t,s)):=by
 have hn:=hok.jS;rw[a.pc];have hwl:=uV hok a;have hon:=on hok a hr aA aA aA;obtain⟨k0,k1,k2⟩:=unit_eq (hr.ok.start ho);have hk:i.a.toNat<M.aJ.length:=aA;have hkk:(bL M i.a.toNat).kind=3:=k2;have hhf:=zV (wJ hC hk);unfold exec
 (repeat rw[if_neg aA]);rw[if_pos ho]
 cases hr.iD with
 |start s1 h1 hi=>
  obtain⟨op1,ar,e1,g1,g2⟩:=a.op.split;have harl:ar.length=(bL M i.a.toNat).params.toNat:=by
   have:=g2.len;rw[←this];show((bL M i.a.toNat).locals.take (bL M i.a.toNat).params.toNat).length=_;simp;omega
  have hws:(cH (cur t) fs0 ⟨q,p+1,ws0.length⟩ (ws0 ++(loc ++op))).ws=(ws0 ++(loc ++op1)) ++ar:=by
   show ws0 ++(loc ++op)=_;rw[e1];simp
  have hd:=drop_set hn hws harl;unfold vZ;simp only[hd,nY hn];have hdr:(cH (cur t) fs0 ⟨q,p+1,ws0.length⟩ (ws0 ++(loc ++op))).ws.drop ((cH (cur t) fs0 ⟨q,p+1,ws0.length⟩ (ws0 ++(loc ++op))).ws.length-(bL M i.a.toNat).params.toNat)=ar:=by
   rw[hws,←harl,Jl,Nat.add_sub_cancel];exact List.drop_left
  rw[hdr]
  split
  ·exact uR hV hK
  ·rename_i h30
   rw[oC]at h30;obtain⟨b,hb⟩:∃b,b=begin M i.a.toNat ar:=⟨_,rfl⟩;have hbot:bot b.fr=i.a.toNat:=by rw[hb];rfl
   have hbw:b.ws.length=(bL M i.a.toNat).locals.length:=by rw[hb];simp[begin]
   have hb64:∀v∈b.ws,In64 v:=fun v hv=>by
    rw[hb]at hv;simp only[begin,eY,sC]at hv;obtain⟨j, -,rfl⟩:=hv;rw[Jd]
    cases hx:ar[j]? with
    |none=>simp[In64]
    |some w=>exact g2.mE w (kO hx)
   have hbj:∀j,j<(bL M i.a.toNat).params.toNat→b.ws.getD j 0=ar.getD j 0:=fun j hj=>by
    rw[hb];simp only[begin];rw[Jd,JU,List.getElem?_range aA];rfl
   have hmore:=hok.more (c:=b) aA (by rw[hb];rfl) (by
    rw[hbot];have:=NH hC (gs:=dJ t ++[i.a.toNat]) hk g2.grow hbw hbj hb64;have hfr:b.fr=[⟨i.a.toNat,0,0⟩]:=by rw[hb];rfl
    rw[hfr];exact .one this) ⟨aA,by rw[hb];simp[begin]⟩ (by rw[hbot];exact⟨hk,hkk⟩)
   rw[←hb];have hcs:(setCur t ({cH (cur t) fs0 ⟨q,p+1,ws0.length⟩ (ws0 ++(loc ++op))with ws:=ws0 ++(loc ++op1)}:Co)).cs.length=t.cs.length:=oC _ _;obtain⟨t1,et⟩:∃t1:Tk,t1={t with cs:=t.cs ++[b]}:=⟨_,rfl⟩;rw[←et]at hmore;have hn1:t1.now<t1.cs.length:=hmore.jS;have hcur1:cur t1=cur t:=by rw[et];exact rI hn
   have hgs1:dJ t1=dJ t ++[i.a.toNat]:=by rw[et,zU,hbot]
   have hst1:({setCur t ({cH (cur t) fs0 ⟨q,p+1,ws0.length⟩ (ws0 ++(loc ++op))with ws:=ws0 ++(loc ++op1)}:Co)with cs:=(setCur t ({cH (cur t) fs0 ⟨q,p+1,ws0.length⟩ (ws0 ++(loc ++op))with ws:=ws0 ++(loc ++op1)}:Co)).cs ++[b]}:Tk)=setCur t1 (cH (cur t1) fs0 ⟨q,p+1,ws0.length⟩ (ws0 ++(loc ++op1))):=by
    rw[hcur1,et];unfold setCur fB;simp only[Tk.mk.injEq,and_true,true_and];rw[List.set_append_left _ _ hn];rfl
   rw[hst1,hcs];have a1:At M T t1 fs0 ws0 q p (s1 ++List.take (M.aJ.getD i.a.toNat default).params.toNat (M.aJ.getD i.a.toNat default).locals) hh loc op:=⟨by rw[hcur1];exact a.fr,by rw[hcur1];exact a.ws,a.hq,a.hT,by rw[hgs1];exact a.loc.grow,by rw[hgs1];exact a.op.grow,by
    rw[hgs1];rcases a.under with u|⟨u1,u2⟩
    ·exact .inl u
    ·exact .inr ⟨u1.grow,u2⟩⟩
   refine uI hV hmore a1 hr aA aA aA rfl (by rw[hgs1];exact g1.grow) ?_ (by rw[hgs1];exact a.loc.grow) (hV.tell _ _ hK) (by rw[e1];simp);refine⟨by unfold In64;omega,fun h=>aA,fun _=>⟨t.cs.length,rfl,by rw[hgs1];simp[zT],?_,aA⟩⟩;rw[hgs1,Jd,rD (by rw[zT];exact bS _),zT];simp;omega
 |_=>exfalso;omega
end
section
variable{M:aL}{T:Nat→Int→Option Shape}{ν:Type}{V:Env ν}{K:ν→Prop}(hC:gN M T)(hV:o9 V M K)
include hC hV
theorem RP{t:Tk}{ch:List Nat}(hok:Ok M T t ch){s:ν}(hK:K s)(hw:((cO M t).op=26→V.full s (cO M t).a.toNat=false)∧((cO M t).op=27→V.empty s (cO M t).a.toNat=false)):
  nU M T K (exec V M (cO M t) (gX ((gY (cur t)).pc+1) t,s)):=by
 obtain⟨fs0,ws0,q,p,st,hh,loc,op,a⟩:=hok.at_;obtain⟨st',h',hr⟩:=a.here hC;have e:(gY (cur t)).pc=p:=by rw[a.top]
 rw[e];have ho:=hr.ok.op
 by_cases h1:(cO M t).op=1∨(cO M t).op=2∨(cO M t).op=3
 ·exact aBb hC hV hok a hr hK h1
 by_cases h2:(cO M t).op=4∨(cO M t).op=5∨(cO M t).op=6∨(cO M t).op=7∨(cO M t).op=22∨(cO M t).op=26∨(cO M t).op=28
 ·exact aBa hC hV hok a hr hK h2 hw.1
 by_cases h3:8≤(cO M t).op∧(cO M t).op≤20
 ·exact aBg hC hV hok a hr hK h3
 by_cases h4:(cO M t).op=21∨(cO M t).op=27
 ·exact aB8 hC hV hok a hr hK h4 hw.2
 by_cases h5:(cO M t).op=23
 ·exact aB6 hC hV hok a hr hK h5
 by_cases h6:(cO M t).op=24
 ·exact aBd hC hV hok a hr hK h6
 by_cases h7:(cO M t).op=25
 ·exact aB7 hC hV hok a hr hK h7
 by_cases h8:(cO M t).op=29
 ·exact aBf hC hV hok a hr hK h8
 by_cases h9:(cO M t).op=30
 ·exact aBc hC hV hok a hr hK h9
 by_cases h10:(cO M t).op=31
 ·exact aBh hC hV hok a hr hK h10
 have h11:(cO M t).op=32:=aA;exact aB5 hC hV hok a hr hK h11
def Good(M:aL)(T:Nat→Int→Option Shape)(K:ν→Prop)(r:Tk×ν):Prop:=(r.1.st=5∨r.1.st=4∨(r.1.st≤3∧∃ch,Ok M T r.1 ch))∧K r.2
omit hC hV in
theorem Ok.st{t:Tk}{ch:List Nat}(h:Ok M T t ch)(n b:Int):Ok M T {t with st:=n,bx:=b} ch:=⟨h.now,h.eL,h.nodup,h.mem,h.going,h.chain,h.root,h.top,h.wait,h.fresh,h.held,h.lens,h.kinds,h.bV⟩
omit hC hV in
theorem AE{r:Tk×ν}(h:Good M T K r):Good M T K (look V M r):=by
 unfold look
 by_cases h3:r.1.st≤3
 ·rw[if_pos h3];obtain⟨h1,h2⟩:=h;have hok:∃ch,Ok M T r.1 ch:=by
   rcases h1 with h|h|h
   ·omega
   ·omega
   ·exact h.2
  obtain⟨ch,hok⟩:=hok;unfold waits
  split
  ·exact⟨.inr (.inr ⟨aW,ch,hok.st _ _⟩),h2⟩
  split
  ·exact⟨.inr (.inr ⟨aW,ch,hok.st _ _⟩),h2⟩
  ·exact⟨.inr (.inr ⟨aW,ch,hok.st _ _⟩),h2⟩
 ·rw[if_neg h3];exact h
theorem VU(v:Int)(s:Tk×ν):(push V v s).1.st=s.1.st∨(push V v s).1.st=5:=by
 unfold push
 split
 ·unfold e9;split
  ·exact .inl rfl
  ·exact .inr rfl
 ·exact .inl rfl
theorem aH7(n:Int)(s:Tk×ν):(e9 V n s).1.st=s.1.st∨(e9 V n s).1.st=5:=by
 unfold e9;split
 ·exact .inl rfl
 ·exact .inr rfl
theorem VR:∀(n:Nat) (s:Tk×ν),(gB V n s).1.st=s.1.st∨(gB V n s).1.st=5
 |0,s=> .inl rfl
 |n+1,s=>by
  unfold gB;rcases VR n (push V 0 s)with h|h
  ·rw[h];exact VU hC hV 0 s
  ·exact .inr h
def sI(n:Int)(r:Tk×ν):Prop:=r.1.st=n∨r.1.st=5∨r.1.st=4
omit hC hV in
theorem sI.ite{n:Int}{c:Prop} [Decidable c]{a b:Tk×ν}(h1:sI n a)(h2:sI n b):sI n (if c then a else b):=by split<;>assumption
theorem aBe(i:aT)(s:Tk×ν):sI s.1.st (exec V M i s):=by
 have hp:∀v (r:Tk×ν),r.1.st=s.1.st→sI s.1.st (push V v r):=fun v r e=>by
  rcases VU hC hV v r with h|h
  ·exact .inl (h.trans e)
  ·exact .inr (.inl h)
 have ht:∀v (r:Tk×ν),r.1.st=s.1.st→sI s.1.st (e9 V v r):=fun v r e=>by
  rcases aH7 hC hV v r with h|h
  ·exact .inl (h.trans e)
  ·exact .inr (.inl h)
 have hn:∀n (r:Tk×ν),r.1.st=s.1.st→sI s.1.st (gB V n r):=fun n r e=>by
  rcases VR hC hV n r with h|h
  ·exact .inl (h.trans e)
  ·exact .inr (.inl h)
 have he:sI s.1.st (tO V s):=by
  unfold tO
  cases(cur s.1).up with
  |none=>exact .inr (.inr rfl)
  |some j=>exact hp _ _ rfl
 unfold exec vF ret vZ yC D1 zH;dsimp only
 repeat' (first|exact he|exact hp _ _ rfl|exact ht _ _ rfl|exact hn _ _ rfl|refine sI.ite ?_ ?_|exact .inl rfl|(refine .inl ?_;show(if _ then _ else _:Tk).st=_;split<;>rfl))
theorem XG{r:Tk×ν}(h:Good M T K r):Good M T K (step V M r).2:=by
 unfold step;have hl:=AE (V:=V) h;generalize hL:look V M r=r1 at *;simp only
 split
 ·exact hl
 ·rename_i hst
  have hst1:r1.1.st=1:=yX hst;obtain⟨h1,hK⟩:=hl;have hok:∃ch,Ok M T r1.1 ch:=by
   rcases h1 with h|h|h
   ·omega
   ·omega
   ·exact h.2
  obtain⟨ch,hok⟩:=hok;have hw:((cO M r1.1).op=26→V.full r1.2 (cO M r1.1).a.toNat=false)∧((cO M r1.1).op=27→V.empty r1.2 (cO M r1.1).a.toNat=false):=by
   have hr3:r.1.st≤3:=by
    refine Int.not_lt.1 fun hlt=>?_;unfold look at hL;rw[if_neg aA]at hL;subst hL;omega
   unfold look at hL;rw[if_pos hr3]at hL;have hi:cO M r1.1=cO M r.1∧r1.2=r.2:=by
    rw[←hL];unfold waits
    split
    ·exact⟨rfl,rfl⟩
    split
    ·exact⟨rfl,rfl⟩
    ·exact⟨rfl,rfl⟩
   rw[hi.1,hi.2];unfold waits at hL
   by_cases c1:(cO M r.1).op=26∧V.full r.2 (cO M r.1).a.toNat=true
   ·rw[if_pos c1]at hL;subst hL;simp at hst1
   ·rw[if_neg c1]at hL
    by_cases c2:(cO M r.1).op=27∧V.empty r.2 (cO M r.1).a.toNat=true
    ·rw[if_pos c2]at hL;subst hL;simp at hst1
    ·refine⟨fun ho=>?_,fun ho=>?_⟩
     ·cases hx:V.full r.2 (cO M r.1).a.toNat with
      |false=>rfl
      |true=>exact absurd ⟨ho,hx⟩ c1
     ·cases hx:V.empty r.2 (cO M r.1).a.toNat with
      |false=>rfl
      |true=>exact absurd ⟨ho,hx⟩ c2
  have hres:=RP hC hV hok hK hw;have hest:=aBe hC hV (cO M r1.1) (gX ((gY (cur r1.1)).pc+1) r1.1,r1.2);refine AE (V:=V) ⟨?_,hres.2⟩;rcases hres.1 with h|h|h
  ·exact .inl h
  ·exact .inr (.inl h)
  ·rcases hest with e|e|e
   ·refine .inr (.inr ⟨?_,h⟩);rw[e];show r1.1.st≤3;omega
   ·exact .inl e
   ·exact .inr (.inl e)
end
theorem CW{M:aL}{T:Nat→Int→Option Shape}(hC:gN M T){u:Nat}(hu:u<M.aJ.length)(hk:(bL M u).kind=4):Ok M T (new M u) [0]:=by
 have hh:=zV (wJ hC hu);have hp:(bL M u).params.toNat=0:=by
  have h:=wJ hC hu;unfold Ver.head at h
  by_cases e1:(bL M u).kind≠2∧(bL M u).kind≠3∧(bL M u).kind≠4
  ·rw[if_pos e1]at h;cases h
  rw[if_neg e1]at h
  by_cases e2:200<(bL M u).locals.length∨(bL M u).params<0∨6<(bL M u).params∨((bL M u).locals.length:Int)<(bL M u).params∨((bL M u).kind=4∧0<(bL M u).params)
  ·rw[if_pos e2]at h;cases h
  omega
 have hco:∀k,k<(new M u).cs.length→k=0:=fun k h=>by simp[new]at h;omega
 have hco0:co (new M u) 0={begin M u []with st:=2}:=rfl;have hst:iT M T (dJ (new M u)) [⟨u,0,0⟩] (begin M u []).ws []:=by
  refine .one (NH hC hu (a:=[]) ?_ (by simp[begin]) (fun j hj=>aA) (fun v hv=>?_))
  ·rw[hp];exact .nil
  ·simp only[begin,eY]at hv;obtain⟨j, -,rfl⟩:=hv;simp[In64]
 refine⟨rfl,by simp[new],aW,fun k hk=>by simp at hk;subst hk;simp[new],fun k hk'=>?_,fun i k h=>?_,fun i k h _=>?_,hst,fun i d k h1 h2=>?_,fun k hk' h0=>?_,fun k hk' h0=>?_,fun k hk'=>?_,fun k hk'=>?_,fun k hk'=>?_⟩
 ·obtain rfl:=hco k hk';rw[hco0];simp
 ·cases i with
  |zero=>simp at h;subst h;rfl
  |succ i=>simp at h
 ·cases i with
  |zero=>simp at h;exact h.symm
  |succ i=>simp at h
 ·simp at h2
 ·obtain rfl:=hco k hk';rw[hco0]at h0;cases h0
 ·obtain rfl:=hco k hk';rw[hco0]at h0;cases h0
 ·obtain rfl:=hco k hk';rw[hco0];refine⟨?_,by simp[begin]⟩;show(begin M u []).ws.length≤400;simp[begin];omega
 ·obtain rfl:=hco k hk';rw[hco0];exact⟨hu,by rw[if_pos rfl];exact hk⟩
 ·obtain rfl:=hco k hk';rw[hco0];simp
end Vm
namespace Vw
open Go.RowKit Img
section
variable{E:dK}{s:SL E}
abbrev SL.put(s:SL E)(q:Sk×Int×Int×E.μ):SL E:={s with cur:={s.cur with sk:=q.1},st:=q.2.1,tr:=q.2.2.1,e:=q.2.2.2}
abbrev SL.sk(s:SL E)(k:Sk):SL E:={s with cur:={s.cur with sk:=k}}
abbrev SL.cH(s:SL E)(st tr:Int)(e:E.μ):SL E:={s with st:=st,tr:=tr,e:=e}
theorem SL.Wf.cH(h:s.Wf){st tr:Int}{e:E.μ}(he:E.ok e):(s.cH st tr e).Wf:=⟨h.now,h.len,h.eL,h.at_,h.up,h.mN,h.sk,he⟩
theorem wF{n:Int}{q:Int×Int×E.μ}(h:s.Wf)(t:H0 E n s.st s.tr s.e q):(s.cH q.1 q.2.1 q.2.2).Wf∧(s.cH q.1 q.2.1 q.2.2).two=Vm.e9 E.V n s.two:=by
 by_cases h5:s.st=5
 ·have e:=t.aO h5;subst e;refine⟨h,?_⟩;unfold Vm.e9;rw[if_pos (show s.two.1.st=5 from h5)]
 ·obtain⟨h1,h2,h3,h4⟩:=t.new h5;refine⟨h.cH h3,?_⟩;unfold Vm.e9;rw[if_neg (show¬s.two.1.st=5 from h5)];show(SL.tk _,E.abs q.2.2)=_;rw[h4,h1,h2];rfl
theorem SL.Wf.BM(h:s.Wf):(Vm.cur s.two.1).ws.length=s.cur.sk.live:=by
 show(Vm.cur s.tk).ws.length=_;rw[h.cur];exact Sk.len h.dR
theorem SL.Wf.W7(h:s.Wf){k:Sk}{xs:List Int}(t:pG s.cur.sk k xs):(s.sk k).Wf∧(s.sk k).tk=Vm.setCur s.tk {Vm.cur s.tk with ws:=xs}:=by
 refine⟨h.setCur rfl rfl rfl t.ok,?_⟩;rw[SL.uQ,h.cur];show Vm.setCur s.tk ⟨s.cur.st,s.cur.up,s.cur.fr,k.ws⟩=_;rw[t.ws];rfl
theorem mL{v:Int}{q:Sk×Int×Int×E.μ}(h:s.Wf)(t:O7 E v s.cur.sk s.st s.tr s.e q):(s.put q).Wf∧(s.put q).two=Vm.push E.V v s.two:=by
 obtain⟨k,st,tr,e⟩:=q;unfold Vm.push
 by_cases h4:s.cur.sk.live=400
 ·obtain⟨e1,e2⟩:=t.full h4;simp only at e1 e2;subst e1;rw[if_pos (by rw[h.BM];exact h4)];exact wF h e2
 ·obtain⟨e1,e2⟩:=t.room h4;simp only[u7]at e1 e2;obtain⟨rfl,rfl,rfl⟩:=e2;rw[if_neg (by rw[h.BM];exact h4)];obtain⟨g1,g2⟩:=h.W7 e1;refine⟨g1,?_⟩;show((s.sk k).tk,E.abs s.e)=_;rw[g2,h.cur];show _=(Vm.setCur s.tk {Vm.cur s.tk with ws:=(Vm.cur s.tk).ws ++[v]},E.abs s.e);rw[h.cur];rfl
theorem nK{n:Nat}{k:Sk}(h:s.Wf)(t:pG s.cur.sk k (s.cur.sk.ws.take (s.cur.sk.live-n))):(s.sk k).Wf∧(s.sk k).tk=Vm.drop n s.tk:=by
 obtain⟨g1,g2⟩:=h.W7 t;refine⟨g1,?_⟩;rw[g2];unfold Vm.drop;have:=h.BM;have e:(Vm.cur s.tk).ws.length=s.cur.sk.live:=this;rw[e,h.cur];rfl
theorem SL.Wf.last(h:s.Wf):Vm.last s.tk=s.cur.sk.ws.getD (s.cur.sk.live-1) 0:=by
 unfold Vm.last;have e:(Vm.cur s.tk).ws.length=s.cur.sk.live:=h.BM;rw[e,h.cur];rfl
theorem SL.Wf.gY(h:s.Wf):Vm.gY (Vm.cur s.tk)=s.cur.fr.getD (s.cur.fr.length-1) default:=by
 rw[h.cur];rfl
end
section
attribute [local irreducible] aE aG End aB Still aN aU RunT Fn aS
variable{E:dK}
structure jL(s:SL E)(r:Vm.Tk×E.ν)(s':SL E):Prop where
 wf:s'.Wf
 two:s'.two=r
abbrev SL.F(p:Pl)(s:SL E):TF:=⟨p.tb,p.mb, .slice s.co s.bs.length s.ccap,s.cur.cb,s.bx, .slice s.oo s.out.length s.oc⟩
theorem VM{ν:Type}(V:Vm.Env ν):∀(n:Nat) (s:Vm.Tk×ν),Vm.gB V (n+1) s=Vm.push V 0 (Vm.gB V n s)
 |0,s=>rfl
 |n+1,s=>by
  rw[Vm.gB,VM V n];rfl
set_option maxHeartbeats 1000000 in
theorem aA1(p:Pl)(z:SL E)(hz:z.Wf)(hsz:E.size (E.abs z.e)≤1000000)(u:Nat)(hu:u<p.m.us.length)(hp:0≤(p.m.us.getD u default).u.params)(hpl:(p.m.us.getD u default).u.params.toNat≤z.cur.sk.live)(hpL:(p.m.us.getD u default).u.params.toNat≤(p.m.us.getD u default).u.locals.length)(hl:(p.m.us.getD u default).u.locals.length≤200)(hf:z.cur.fr.length≤40):
  Fn Tryz.prog 106 #[ptr p.tb, .int .i64 u] [md p.m,E.rc] (TM p z) (σ:=SL E) (jL z (Vm.vF E.V p.m.aC u z.two)) (fun _=> .tuple #[]) (fun z'=>TM p z'):=by
 obtain⟨g1,g2,g3⟩:=id hz.dR;have he:E.iY z.e:=⟨hz.env,aA⟩;have hcl:(Vm.cur z.two.1).fr.length=z.cur.fr.length:=by
  show(Vm.cur z.tk).fr.length=_;rw[hz.cur];rfl
 obtain⟨n,hn⟩:∃n,n=(p.m.us.getD u default).u.locals.length-(p.m.us.getD u default).u.params.toNat:=⟨_,rfl⟩;obtain⟨bse,hbse⟩:∃n,n=z.cur.sk.live-(p.m.us.getD u default).u.params.toNat:=⟨_,rfl⟩;have w1:IntKind.i64.wrap ((z.cur.sk.live:Int)-(p.m.us.getD u default).u.params)=(bse:Int):=by rw[dX aA];omega
 have w2:IntKind.i64.wrap (((p.m.us.getD u default).u.locals.length:Int)-(p.m.us.getD u default).u.params)=(n:Int):=by rw[dX aA];omega
 refine JE [ptr p.tb, .int .i64 u] Tryz.func106 Tryz.ntmps106 fun w S=>?_;refine aD ?_;refine b8 10 [jP z.cur,md p.m] 11 ?_;refine bR [0,1,2,3,5,6,7,8] ?_;refine lN 4 (FX z.cur.sk) fun s hs=>?_;refine JR 9 ?_;refine RunT.uD 10 (h:=aB.bP (k:=And.intro xU ?_));refine b6 ?_
 by_cases h40:z.cur.fr.length=40
 ·refine aD ?_;(refine Jc ?_;refine aB.bA (spec:=wE E (z.F p) z.st z.tr z.e he 4) (r:=fun w=>Reads.any (tk) E.eC .nil) (k:=?_);intro s hs;refine Jn ?_);refine aD ?_;obtain⟨t1,t2⟩:=wF hz hs;(refine End.pJ ((z.cH s.1 s.2.1 s.2.2)) (hp:=?_));refine⟨t1,t2.trans ?_⟩;unfold Vm.vF;rw[if_pos (hcl.trans h40)]
 ·repeat(refine Jy ?_;try intro b)
  (apply aE.op;exact rfl;refine aB.jN (a:=(⟨u,0,bse⟩:Vm.Fr)) (k:=?_);intro ao cap);obtain⟨z1,hz1⟩:∃z1:SL E,z1={z with cur:={z.cur with fo:=ao,fc:=cap,fr:=z.cur.fr ++[⟨u,0,bse⟩]}}:=⟨_,rfl⟩;have hw1:z1.Wf:=by rw[hz1];exact hz.setCur rfl rfl rfl hz.dR
  refine aD ?_;refine kS (σ:=Nat×(Sk×Int×Int×E.μ)) (fun s=>s.1≤n∧(z1.put s.2).Wf∧(z1.put s.2).two=Vm.gB E.V s.1 z1.two) (fun s=>[(0,ptr p.tb),(59, .int .i64 n),(60, .int .i64 s.1)]) (fun s=>aO w S::E.rc::E.tc (z.F p) s.2.2.1 s.2.2.2.1::lR p::B9 z::UR z::lL (z.oth.eraseIdx z.now)::E.mem s.2.2.2.2::cc z.cur.cb (z.cur.st:Int) (e8 z.cur.upb) (.slice ao (z.cur.fr.length+1) cap) s.2.1.sb::arr ao (z.cur.fr.length+1) cap 171 dH (z.cur.fr ++[⟨u,0,bse⟩])::iQ s.2.1) (fun s=>n-s.1) (0,z.cur.sk,z.st,z.tr,z.e) ?_ fun s hs K hK=>?_
  ·refine⟨bQ _,?_,?_⟩
   ·rw[hz1]at hw1⊢;exact hw1
   ·rw[hz1];rfl
  refine Jn ?_;obtain⟨i,k,st,tr,e⟩:=s;obtain⟨hi,hw,h2⟩:=hs;simp only at hi hw h2 hK⊢
  by_cases hin:i<n
  ·have hkk:E.iY e:=⟨hw.env,by
    have h5:=VQ E i z1.two;rw[←h2]at h5;have h6:E.size (E.abs e)≤E.size (E.abs z1.e)+i:=h5;have h7:z1.e=z.e:=by rw[hz1]
    rw[h7]at h6;omega⟩
   refine aD ?_;(refine Jc ?_;refine aB.bA (spec:=mK E (z.F p) st tr e hkk (z.cur.st:Int) (e8 z.cur.upb) (.slice ao (z.cur.fr.length+1) cap) k hw.dR 0) (r:=fun w=>Reads.any (tk) E.eC .nil) (k:=?_);intro s hs;refine Jn ?_);obtain⟨t1,t2⟩:=mL hw hs;refine aD ?_;refine End.pY hK (i+1,s) ?_ ?_
   ·refine⟨hin,t1,?_⟩;rw[VM,←h2];exact t2
   ·simp only;omega
  ·obtain rfl:i=n:=aA;refine aD ?_;subst hz1;(refine End.dL (SL.put {z with cur:={z.cur with fo:=ao,fc:=cap,fr:=z.cur.fr ++[⟨u,0,bse⟩]}} (k,st,tr,e)) (ht:=Jx) (hp:=?_));refine⟨hw,h2.trans ?_⟩;unfold Vm.vF;rw[if_neg (fun h=>h40 (hcl.symm.trans h))];have e1:(Vm.bL p.m.aC u).locals.length-(Vm.bL p.m.aC u).params.toNat=i:=by unfold Vm.bL;rw[ML.jK];exact hn.symm
   have e2:(Vm.cur z.tk).ws.length-(Vm.bL p.m.aC u).params.toNat=bse:=by rw[show(Vm.cur z.tk).ws.length=z.cur.sk.live from hz.BM];unfold Vm.bL;rw[ML.jK];exact hbse.symm
   show _=Vm.gB E.V _ (Vm.setCur z.tk {Vm.cur z.tk with fr:=(Vm.cur z.tk).fr ++[⟨u,0,(Vm.cur z.tk).ws.length-(Vm.bL p.m.aC u).params.toNat⟩]},E.abs z.e);rw[e1,e2,hz.cur];unfold SL.two;rw[SL.uQ];rfl
end
theorem aE.imp'{P:Program}{ops:Array Oper}{Q:Exit→Act→World→Prop}{N:Nd}{l:List Oper}{E:Env}{L L':List Chunk}(t:∀w,Mem w L→Mem w L')(h:aE P ops Q N l E L'):aE P ops Q N l E L:=fun a w hs hm=>h a w hs (t w hm)
theorem SM{α:Type} [Inhabited α]:∀{l:List α} {k:Nat},k<l.length→l.Perm (l.getD k default::l.eraseIdx k)
 |a::l,0,_=>List.Perm.refl _
 |a::l,k+1,h=>by
  have ih:=SM (l:=l) (k:=k) (by simpa using h);exact(List.Perm.cons a ih).trans (List.Perm.swap _ _ _)
theorem R3(l:List cN){k:Nat}(h:k<l.length):(l.flatMap iM).Perm (iM (l.getD k default) ++(l.eraseIdx k).flatMap iM):=by
 have:=(SM h).flatMap_right iM;simpa only[qE]using this
theorem RM{α:Type}(l:List α)(k:Nat)(a:α):(l.set k a).eraseIdx k=l.eraseIdx k:=List.eraseIdx_set_eq
theorem getD_set_ne{l:List cN}{j k:Nat}{c:cN}(h:j≠k):(l.set j c).getD k default=l.getD k default:=by
 simp only[Jd];rw[List.getElem?_set_ne h]
theorem FD{l:List cN}{k:Nat}{c:cN}(h:k<l.length):(l.set k c).getD k default=c:=by
 simp only[Jd];rw[JS h];rfl
theorem QY(c:cN):∀d∈iM c,d.bE=true:=by
 unfold iM;simp[iL,dU]
theorem Mem.swap{w:World}{L L' F:List Chunk}{l:List cN}{c:cN}{j k:Nat}(h:Mem w L)(t:Take (lL (l.eraseIdx j)) L L')(t2:aR (iM c) L' F)(hj:j<l.length)(hk:k<l.length)(hne:j≠k):Mem w (iM (l.getD k default) ++(lL ((l.set j c).eraseIdx k)::F)):=by
 have h1:Mem w (bC ((l.set j c).flatMap iM)::F):=by
  refine Mem.nC (es:=(l.eraseIdx j).flatMap iM) (ds:=iM c) h t t2 ?_ (QY c);have:=R3 (l.set j c) (k:=j) (by simpa using hj);rwa [FD hj,RM]at this
 have h2:=Mem.pH (ds:=iM (l.getD k default)) (es:=((l.set j c).eraseIdx k).flatMap iM) h1 .head (by
  have:=R3 (l.set j c) (k:=k) (by simpa using hk);rwa [getD_set_ne hne]at this)
 exact h2
section
variable{E:dK}{s:SL E}
abbrev SL.go(s:SL E)(c:cN)(j:Nat)(d:cN):SL E:={s with oth:=s.oth.set s.now c,now:=j,cur:=d}
theorem SL.KU(s:SL E)(c d:cN)(j:Nat):(s.go c j d).all=(s.oth.set s.now c).set j d:=rfl
theorem SL.Wf.oth(h:s.Wf){j:Nat}(hj:s.now≠j):s.all.getD j default=s.oth.getD j default:=getD_set_ne hj
theorem SL.aCH(s:SL E)(c d:cN)(j:Nat):(s.go c j d).tk={Vm.fB (Vm.setCur s.tk c.abs) j d.abs with now:=j}:=by
 unfold SL.tk Vm.setCur Vm.fB SL.all;simp only[List.map_set,List.set_set]
theorem SL.Wf.go(h:s.Wf){c d:cN}{j:Nat}(hj:j<s.oth.length)(hne:s.now≠j)(hc:c.cb=s.cur.cb∧c.sk.Ok∧c.upb=c.up.map (fun j=>s.bs.getD j 0)∧∀i,c.up=some i→i<s.oth.length)
  (hd:d.cb=(s.oth.getD j default).cb∧d.sk.Ok∧d.upb=d.up.map (fun j=>s.bs.getD j 0)∧∀i,d.up=some i→i<s.oth.length):(s.go c j d).Wf:=by
 have hmem:∀x∈(s.go c j d).all,x=c∨x=d∨x∈s.all:=fun x hx=>by
  rw[SL.KU]at hx;obtain⟨i,hi,e⟩:=List.mem_iff_getElem.1 hx;rw[xA]at e
  split at e
  ·exact .inr (.inl e.symm)
  rw[xA]at e
  split at e
  ·exact .inl e.symm
  ·rename_i hne'
   right;right
   rw[←e];unfold SL.all;refine List.mem_iff_getElem.2 ⟨i,by simpa using hi,?_⟩;rw[List.getElem_set_ne hne']
 refine⟨by simpa using hj,by simpa using h.len,by simpa using h.eL,fun i hi=>?_,fun x hx=>?_,fun x hx i hi=>?_,fun x hx=>?_,h.env⟩
 ·have hi:i<s.oth.length:=by simpa using hi
  rw[SL.KU]
  by_cases hij:j=i
  ·subst hij;rw[FD (by simpa using hi),hd.1,←h.at_ j hi,h.oth hne]
  ·rw[getD_set_ne hij]
   by_cases hin:s.now=i
   ·subst hin;rw[FD hi,hc.1,←h.at_ _ hi,h.xM]
   ·rw[getD_set_ne hin,←h.at_ i hi,h.oth hin]
 ·rcases hmem x hx with rfl|rfl|hx
  ·exact hc.2.2.1
  ·exact hd.2.2.1
  ·exact h.up x hx
 ·show i<(s.oth.set _ _).length;rw[Ji];rcases hmem x hx with rfl|rfl|hx
  ·exact hc.2.2.2 i hi
  ·exact hd.2.2.2 i hi
  ·exact h.mN x hx i hi
 ·rcases hmem x hx with rfl|rfl|hx
  ·exact hc.2.1
  ·exact hd.2.1
  ·exact h.sk x hx
theorem SL.SW(s:SL E)(c:cN){j:Nat}(hj:j<s.oth.length)(hne:s.now≠j):(s.go c j (s.oth.getD j default)).tk={Vm.setCur s.tk c.abs with now:=j}:=by
 unfold SL.tk Vm.setCur Vm.fB;rw[SL.KU];have e:(s.oth.set s.now c).set j (s.oth.getD j default)=s.oth.set s.now c:=by
  refine pE aW fun i h1 h2=>?_;rw[xA]
  split
  ·rename_i h
   subst h;rw[List.getElem_set_ne hne,Jd,Je hj];rfl
  ·rfl
 rw[e];unfold SL.all;simp only[List.map_set,List.set_set]
theorem Mem.G3{w:World}{L L' F:List Chunk}{l:List cN}(c:cN){j k:Nat}(h:Mem w L)(t:Take (lL (l.eraseIdx j)) L L')(t2:aR (iM c) L' F)(hj:j<l.length)(hk:k<l.length)(hne:j≠k):
  Mem w (jP (l.getD k default)::gO (l.getD k default)::aF (l.getD k default).sk.sb (nN (l.getD k default).sk) 236::arr (some ⟨(l.getD k default).sk.lb,0,none⟩) (l.getD k default).sk.l.length (l.getD k default).sk.l.length 2 aY (l.getD k default).sk.l::lL ((l.set j c).eraseIdx k)::F):=Mem.swap h t t2 hj hk hne
theorem Mem.zI{w:World}{L L' F:List Chunk}{l:List cN}(c:cN){j k:Nat}(h:Mem w L)(t:Take (lL ((l.set j c).eraseIdx k)) L L')(t2:aR (iM (l.getD k default)) L' F)(hj:j<l.length)(hk:k<l.length)(hne:j≠k):
  Mem w (jP c::gO c::aF c.sk.sb (nN c.sk) 236::arr (some ⟨c.sk.lb,0,none⟩) c.sk.l.length c.sk.l.length 2 aY c.sk.l::lL (l.eraseIdx j)::F):=by
 have h1:=Mem.G3 (l:=l.set j c) (l.getD k default) h t t2 (by simpa using hk) (by simpa using hj) (fun e=>hne e.symm);have e2:((l.set j c).set k (l.getD k default))=l.set j c:=by
  refine pE aW fun i h1 h2=>?_;rw[xA]
  split
  ·rename_i h
   subst h;rw[List.getElem_set_ne hne,Jd,Je hk];rfl
  ·rfl
 rw[FD hj,e2,RM]at h1;exact h1
theorem SL.Wf.EK(h:s.Wf){j:Nat}(hj:j<s.oth.length)(hne:s.now≠j):s.bs.getD j 0=(s.oth.getD j default).cb:=by rw[←h.at_ j hj,h.oth hne]
theorem SL.Wf.ME(h:s.Wf){j:Nat}(hj:j<s.oth.length)(hne:s.now≠j):s.oth.getD j default∈s.all:=by
 rw[←h.oth hne];exact dW (by rw[s.vA];exact hj)
end
section
attribute [local irreducible] aE aG End aB Still aN aU RunT Fn aS
variable{E:dK}
set_option maxHeartbeats 1000000 in
theorem aBY(p:Pl)(z:SL E)(hz:z.Wf)(hsz:E.size (E.abs z.e)≤1000000)(hj:∀j,z.cur.up=some j→z.now≠j):
  Fn Tryz.prog 107 #[ptr p.tb] [E.rc] (TM p z) (σ:=SL E) (jL z (Vm.tO E.V z.two)) (fun _=> .tuple #[]) (fun z'=>TM p z'):=by
 have he:E.iY z.e:=⟨hz.env,aA⟩;have hub:=hz.up _ hz.tM;have hcur:=hz.cur
 cases hup:z.cur.up with
 |none=>
  rw[hup]at hub;have hcc:jP z.cur=cc z.cur.cb (z.cur.st:Int) (.pointer none) (.slice z.cur.fo z.cur.fr.length z.cur.fc) z.cur.sk.sb:=by unfold jP;rw[hub];rfl
  refine JE [ptr p.tb] Tryz.func107 Tryz.ntmps107 fun w S=>?_;refine Jn ?_;unfold TM;rw[hcc];refine aD ?_;(refine Jc ?_;refine aB.bA (spec:=A8 E (z.F p) 4 z.tr z.e he 4 0 0) (r:=fun w=>Reads.any (tk) E.eC .nil) (k:=?_);intro s hs;refine Jn ?_);obtain⟨k1,k2⟩:=hs;refine aD ?_;have hw1:({z with cur:={z.cur with st:=3,upb:=none}}:SL E).Wf:=hz.setCur rfl rfl (by rw[hub];rfl) hz.dR;(refine End.pJ (({z with cur:={z.cur with st:=3,upb:=none},st:=4,e:=s}:SL E)) (hp:=?_));refine⟨hw1.cH (st:=4) (tr:=z.tr) k1,?_⟩;unfold Vm.tO;have e1:(Vm.cur z.two.1).up=none:=(congrArg Vm.Co.up hcur).trans hup;rw[e1];show(SL.tk _,E.abs s)=({Vm.setCur z.tk {Vm.cur z.tk with st:=3}with st:=4},E.V.tell (E.abs z.e) (4,0,0));rw[k2,hcur];have e2:=SL.uQ z {z.cur with st:=3,upb:=none};have e3:(cN.abs {z.cur with st:=3,upb:=none})=({z.cur.abs with st:=3}:Vm.Co):=rfl;rw[e3]at e2;rw[←e2];rfl
 |some j=>
  rw[hup]at hub;have hne:=hj j hup;have hlt:=hz.mN _ hz.tM j hup;have hcc:jP z.cur=cc z.cur.cb (z.cur.st:Int) (ptr (z.bs.getD j 0)) (.slice z.cur.fo z.cur.fr.length z.cur.fc) z.cur.sk.sb:=by unfold jP;rw[hub];rfl
  refine JE [ptr p.tb] Tryz.func107 Tryz.ntmps107 fun w S=>?_;refine Jn ?_;unfold TM;rw[hcc];refine aD ?_;rw[hz.EK hlt hne];apply aE.imp' (fun w hm=>Mem.G3 {z.cur with st:=3,up:=none,upb:=none} hm (tk) (cA) hz.now hlt hne);have hd:=hz.ME hlt hne;have hw1:(z.go {z.cur with st:=3,up:=none,upb:=none} j (z.oth.getD j default)).Wf:=hz.go hlt hne ⟨rfl,hz.dR,rfl,fun i h=>by simp at h⟩ ⟨rfl,hz.sk _ hd,hz.up _ hd,hz.mN _ hd⟩;(refine Jc ?_;refine aB.bA (spec:=mK E (SL.F p (z.go {z.cur with st:=3,up:=none,upb:=none} j (z.oth.getD j default))) z.st z.tr z.e he ((z.oth.getD j default).st:Int) (e8 (z.oth.getD j default).upb) (.slice (z.oth.getD j default).fo (z.oth.getD j default).fr.length (z.oth.getD j default).fc) (z.oth.getD j default).sk (hz.sk _ hd) 0) (r:=fun w=>Reads.any (tk) E.eC .nil) (k:=?_);intro s hs;refine Jn ?_);obtain⟨t1,t2⟩:=mL hw1 hs
  refine aD ?_;(refine End.dL (((z.go {z.cur with st:=3,up:=none,upb:=none} j (z.oth.getD j default)).put s)) (hp:=?_));refine⟨t1,t2.trans ?_⟩;unfold Vm.tO;have e1:(Vm.cur z.two.1).up=some j:=(congrArg Vm.Co.up hcur).trans hup;rw[e1];show Vm.push E.V 0 (SL.tk _,E.abs z.e)=Vm.push E.V 0 ({Vm.setCur z.tk {Vm.cur z.tk with st:=3,up:=none}with now:=j},E.abs z.e);rw[SL.SW z _ hlt hne,hcur];rfl
def sT{ν:Type}(V:Vm.Env ν)(k:Nat)(v:Int)(s:Vm.Tk×ν):Vm.Tk×ν:=
 if(s.1.cs.getD k default).st=3 then Vm.e9 V 2 s
 else if(s.1.cs.getD k default).st=2 then Vm.e9 V 3 s
 else if(s.1.cs.getD k default).st=0 then({Vm.fB s.1 k {s.1.cs.getD k default with st:=2,up:=some s.1.now}with now:=k},s.2)
 else Vm.push V v ({Vm.fB s.1 k {s.1.cs.getD k default with st:=2,up:=some s.1.now}with now:=k},s.2)
theorem aFM{ν:Type}(V:Vm.Env ν)(s:Vm.Tk×ν):Vm.yC V s=sT V (Vm.last (Vm.drop 1 s.1)).toNat (Vm.last s.1) (Vm.drop 1 (Vm.drop 1 s.1),s.2):=rfl
theorem SL.Wf.IS{z:SL E}(hz:z.Wf){k:Nat}(hk:k<z.oth.length):z.tk.cs.getD k default=(z.all.getD k default).abs:=KS _ _ (by rw[z.vA];exact hk)
set_option maxHeartbeats 1000000 in
theorem aFN(p:Pl)(z:SL E)(hz:z.Wf)(hsz:E.size (E.abs z.e)≤1000000)(k:Nat)(hk:k<z.oth.length)(v:Int)(hg:z.cur.st=2)(hst:(z.oth.getD k default).st≤3∨k=z.now):
  Fn Tryz.prog 109 #[ptr p.tb,ptr (z.bs.getD k 0), .int .i64 v] [E.rc] (TM p z) (σ:=SL E) (jL z (sT E.V k v z.two)) (fun _=> .tuple #[]) (fun z'=>TM p z'):=by
 have he:E.iY z.e:=⟨hz.env,aA⟩
 by_cases hkn:k=z.now
 ·subst hkn;rw[←hz.IT];refine JE [ptr p.tb,ptr z.cur.cb, .int .i64 v] Tryz.func109 Tryz.ntmps109 fun w S=>?_;refine aD ?_;(refine Jc ?_;refine aB.bA (spec:=wE E (z.F p) z.st z.tr z.e he 3) (r:=fun w=>Reads.any (tk) E.eC .nil) (k:=?_);intro s hs;refine Jn ?_);refine aD ?_;obtain⟨t1,t2⟩:=wF hz hs;(refine End.pJ ((z.cH s.1 s.2.1 s.2.2)) (hp:=?_));refine⟨t1,t2.trans ?_⟩;unfold sT;have e1:z.two.1.cs.getD z.now default=z.cur.abs:=by rw[show z.two.1=z.tk from rfl,hz.IS hk,hz.xM]
  rw[e1,if_neg (by show¬z.cur.st=3;omega),if_pos (show z.cur.abs.st=2 from hg)]
 ·have hne:z.now≠k:=fun h=>hkn h.symm;have hst3:(z.oth.getD k default).st≤3:=hst.resolve_right hkn;rw[hz.EK hk hne];have e1:z.two.1.cs.getD k default=(z.oth.getD k default).abs:=by rw[show z.two.1=z.tk from rfl,hz.IS hk,hz.oth hne]
  have hdm:=hz.ME hk hne;have hcd:(cN.abs (z.oth.getD k default)).st=(z.oth.getD k default).st:=rfl;refine JE [ptr p.tb,ptr (z.oth.getD k default).cb, .int .i64 v] Tryz.func109 Tryz.ntmps109 fun w S=>?_;refine Jn ?_;apply aG.imp (fun w hm=>Mem.G3 z.cur hm (tk) (cA) hz.now hk hne);obtain⟨d,hd⟩:∃d,d=z.oth.getD k default:=⟨_,rfl⟩;rw[←hd]at e1 hdm hcd hst3⊢;have hback:∀{w:World} {L L' F:List Chunk},Take (lL ((z.oth.set z.now z.cur).eraseIdx k)) L L'→aR (iM d) L' F→Mem w L→Mem w (jP z.cur::gO z.cur::aF z.cur.sk.sb (nN z.cur.sk) 236::arr (some ⟨z.cur.sk.lb,0,none⟩) z.cur.sk.l.length z.cur.sk.l.length 2 aY z.cur.sk.l::lL (z.oth.eraseIdx z.now)::F):=fun t t2 hm=>by
   rw[hd]at t2;exact Mem.zI z.cur hm t t2 hz.now hk hne
  have hself:Vm.setCur z.tk z.cur.abs=z.tk:=(SL.uQ z z.cur).symm;have hw1:(z.go z.cur k {d with st:=2,up:=some z.now,upb:=some z.cur.cb}).Wf:=hz.go hk hne ⟨rfl,hz.dR,hz.up _ hz.tM,hz.mN _ hz.tM⟩ ⟨by rw[hd],(hz.sk d hdm:d.sk.Ok),by rw[hz.IT];rfl,fun i h=>by simp at h;subst h;exact hz.now⟩;have htk:(z.go z.cur k {d with st:=2,up:=some z.now,upb:=some z.cur.cb}).tk={Vm.fB z.tk k {d.abs with st:=2,up:=some z.now}with now:=k}:=by
   rw[SL.aCH,hself];rfl
  by_cases h3:d.st=3
  ·refine aD ?_;(refine Jc ?_;refine aB.bA (spec:=wE E (z.F p) z.st z.tr z.e he 2) (r:=fun w=>Reads.any (tk) E.eC .nil) (k:=?_);intro s hs;refine Jn ?_);refine aD ?_;obtain⟨t1,t2⟩:=wF hz hs;apply End.imp (fun w hm=>hback (tk) (cA) hm);(refine End.pJ ((z.cH s.1 s.2.1 s.2.2)) (hp:=?_));refine⟨t1,t2.trans ?_⟩;unfold sT;rw[e1,if_pos (show d.abs.st=3 from h3)]
  ·by_cases h2:d.st=2
   ·refine aD ?_;(refine Jc ?_;refine aB.bA (spec:=wE E (z.F p) z.st z.tr z.e he 3) (r:=fun w=>Reads.any (tk) E.eC .nil) (k:=?_);intro s hs;refine Jn ?_);refine aD ?_;obtain⟨t1,t2⟩:=wF hz hs;apply End.imp (fun w hm=>hback (tk) (cA) hm);(refine End.pJ ((z.cH s.1 s.2.1 s.2.2)) (hp:=?_));refine⟨t1,t2.trans ?_⟩;unfold sT;rw[e1,if_neg (show¬d.abs.st=3 from h3),if_pos (show d.abs.st=2 from h2)]
   ·by_cases h0:d.st=0
    ·refine aD ?_;(refine End.dL ((z.go z.cur k {d with st:=2,up:=some z.now,upb:=some z.cur.cb})) (hp:=?_));refine⟨hw1,?_⟩;unfold sT;rw[e1,if_neg (show¬d.abs.st=3 from h3),if_neg (show¬d.abs.st=2 from h2),if_pos (show d.abs.st=0 from h0)];show(SL.tk _,E.abs z.e)=_;rw[htk];rfl
    ·refine aD ?_;(refine Jc ?_;refine aB.bA (spec:=mK E (SL.F p (z.go z.cur k {d with st:=2,up:=some z.now,upb:=some z.cur.cb})) z.st z.tr z.e he 2 (ptr z.cur.cb) (.slice d.fo d.fr.length d.fc) d.sk (hz.sk _ hdm) v) (r:=fun w=>Reads.any (tk) E.eC .nil) (k:=?_);intro s hs;refine Jn ?_);obtain⟨t1,t2⟩:=mL hw1 hs;refine aD ?_;(refine End.dL (((z.go z.cur k {d with st:=2,up:=some z.now,upb:=some z.cur.cb}).put s)) (hp:=?_));refine⟨t1,t2.trans ?_⟩;unfold sT;rw[e1,if_neg (show¬d.abs.st=3 from h3),if_neg (show¬d.abs.st=2 from h2),if_neg (show¬d.abs.st=0 from h0)];show Vm.push E.V v (SL.tk _,E.abs z.e)=_;rw[htk];rfl
end
end Vw
end Go.Proofs.YtofckcabpchcmaaGreatDoor
