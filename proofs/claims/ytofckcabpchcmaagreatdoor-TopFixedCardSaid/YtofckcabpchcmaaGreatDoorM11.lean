/- A right module's task keeps what is known: each instruction. Plain Lean. -/
import Derived.Test.YtofckcabpchcmaaGreatDoorM10
set_option linter.unusedVariables false
set_option linter.unusedSimpArgs false
set_option linter.unusedSectionVars false
set_option maxRecDepth 100000
namespace Go.Proofs.YtofckcabpchcmaaGreatDoor
namespace Vm
open ImgM Ver Opt
structure dF(M:aG)(T:Nat→Int→Option Shape):Prop where
 form:AN M
 iJ:∀q,q<M.aL.length→∀i∈(bD M q).code,bG i.n∧bG i.a
 cert:∀q,q<M.aL.length→Cert M (bD M q) (T q)
 lens:∀q p s,q<M.aL.length→T q p=some s→s.2.length=(bD M q).locals.length
structure mP{ν:Type}(V:Env ν)(M:aG)(K:ν→Prop):Prop where
 take:∀s b,K s→b<M.boxes.length→V.empty s b=false→K (V.take s b).2∧bG (V.take s b).1∧((M.boxes.getD b default).1=2→(V.take s b).1=0∨(V.take s b).1=1)
 put:∀s b v,K s→b<M.boxes.length→V.full s b=false→bG v→((M.boxes.getD b default).1=2→v=0∨v=1)→K (V.put s b v)
 tell:∀s e,K s→K (V.tell s e)
structure At(M:aG)(T:Nat→Int→Option Shape)(t:Tk)(fs0:List Fr)(ws0:List Int)(q p:Nat)(st:List Int)(h:List Bool)(loc op:List Int):Prop where
 fr:(cur t).fr=fs0 ++[⟨q,p,ws0.length⟩]
 ws:(cur t).ws=ws0 ++(loc ++op)
 hq:q<M.aL.length
 hT:T q (p:Int)=some (st,h)
 loc:Loc (cR t) (bD M q).locals h loc
 op:eI (cR t) st op
 under:DH M T (cR t) q fs0 ws0
section
variable{M:aG}{T:Nat→Int→Option Shape}{t:Tk}{ch:List Nat}
theorem Ok.at_(h:Ok M T t ch):∃fs0 ws0 q p st hh loc op,At M T t fs0 ws0 q p st hh loc op:=by
 obtain⟨fs0,ws0,q,p,seg,e1,e2,⟨hq,st,hh,loc,op,g1,g2,g3,g4⟩,hu⟩:=h.top.view;rw[eH]at g1;exact⟨fs0,ws0,q,p,st,hh,loc,op,e1,by rw[e2,g2],hq,g1,g3,g4,hu⟩
variable{fs0:List Fr}{ws0:List Int}{q p:Nat}{st:List Int}{hh:List Bool}{loc op:List Int}
theorem MR{α:Type} [Inhabited α](l:List α)(a:α):(l ++[a]).getD ((l ++[a]).length-1) default=a:=by simp
theorem FY{α:Type}(l:List α)(a b:α):(l ++[a]).set ((l ++[a]).length-1) b=l ++[b]:=by simp
theorem VU(l:List Int)(a:Int):(l ++[a]).getD ((l ++[a]).length-1) 0=a:=by simp
theorem aFg{α:Type}(l a:List α):(l ++a).take ((l ++a).length-a.length)=l:=by simp
theorem At.top(a:At M T t fs0 ws0 q p st hh loc op):fK (cur t)=⟨q,p,ws0.length⟩:=by
 unfold fK;rw[a.fr];exact MR _ _
def b6(c:Co)(fs0:List Fr)(f:Fr)(ws:List Int):Co:=⟨c.st,c.up,fs0 ++[f],ws⟩
theorem At.pc(a:At M T t fs0 ws0 q p st hh loc op)(n:Nat):eR n t=setCur t (b6 (cur t) fs0 ⟨q,n,ws0.length⟩ (ws0 ++(loc ++op))):=by
 unfold eR xH b6;rw[a.top,a.fr,FY,a.ws]
theorem EH{c:Co}{w:List Int}{v:Int}(hn:t.now<t.cs.length)(h:c.ws=w ++[v]):last (setCur t c)=v:=by
 unfold last;rw[mY hn,h];exact VU _ _
theorem drop_set{c:Co}{w a:List Int}{n:Nat}(hn:t.now<t.cs.length)(h:c.ws=w ++a)(ha:a.length=n):drop n (setCur t c)=setCur t {c with ws:=w}:=by
 unfold drop;rw[mY hn,set_set,h,←ha,aFg]
theorem Ok.next(h:Ok M T t ch)(a:At M T t fs0 ws0 q p st hh loc op){p':Nat}{st':List Int}{h1 h2:List Bool}{loc' op':List Int}(hT:T q (p':Int)=some (st',h2))(hle:Le h2 h1)(hl:Loc (cR t) (bD M q).locals h1 loc')(ht:eI (cR t) st' op'){ws:List Int}(hws:ws=ws0 ++(loc' ++op'))(hlen:ws.length≤400):
  Ok M T (setCur t (b6 (cur t) fs0 ⟨q,p',ws0.length⟩ ws)) ch:=by
 subst hws;have hlens:=h.lens _ h.iV;rw[←jV]at hlens;refine h.put rfl rfl ?_ ?_ ⟨hlen,?_⟩
 ·show bot (fs0 ++[_])=bot (cur t).fr;rw[a.fr];exact HL _ _ _ rfl
 ·exact a.under.CO ⟨a.hq,st',h2,loc',op',by rw[eH];exact hT,rfl,hl.le hle,ht⟩
 ·have:=hlens.2;rw[a.fr]at this;show(fs0 ++[_]).length≤40;simpa using this
def mU{ν:Type}(M:aG)(T:Nat→Int→Option Shape)(K:ν→Prop)(r:Tk×ν):Prop:=(r.1.st=5∨r.1.st=4∨∃ch',Ok M T r.1 ch')∧K r.2
variable{ν:Type}{V:Env ν}{K:ν→Prop}(hV:mP V M K)
include hV
theorem tN{n:Int}{s:Tk×ν}(hK:K s.2):mU M T K (dS V n s):=by
 unfold dS
 split
 ·rename_i h;exact⟨.inl h,hK⟩
 ·exact⟨.inl rfl,hV.tell _ _ hK⟩
theorem UN{c:Co}{v:Int}{s:ν}(hn:t.now<t.cs.length)(hK:K s)(h:c.ws.length+1≤400→∃ch',Ok M T (setCur t {c with ws:=c.ws ++[v]}) ch')(hl:c.ws.length≤400):mU M T K (push V v (setCur t c,s)):=by
 unfold push;simp only[mY hn,set_set]
 split
 ·exact tN hV hK
 ·exact⟨.inr (.inr (h (by omega))),hK⟩
end
structure AO(M:aG)(T:Nat→Int→Option Shape)(q p:Nat)(i:aY)(st:List Int)(hh:List Bool)(st':List Int)(h':List Bool):Prop where
 lt:p<(bD M q).code.length
 ins:(bD M q).code.getD p default=i
 gN:hZ M (bD M q) i st hh st' h'
 next:∀x∈rR i (p:Int),0≤x∧∃h2,T q x=some (st',h2)∧Le h2 h'
 ok:rE M (bD M q) i
 iJ:bG i.n∧bG i.a
 inst:gP M (bD M q) i=0
theorem At.here{M:aG}{T:Nat→Int→Option Shape}(hC:dF M T){t:Tk}{fs0:List Fr}{ws0:List Int}{q p:Nat}{st:List Int}{hh:List Bool}{loc op:List Int}(a:At M T t fs0 ws0 q p st hh loc op):∃st' h',AO M T q p (aV M t) st hh st' h':=by
 have hc:=hC.cert q a.hq;have hr:=hc.kB _ _ a.hT;have hf:=hc.fits _ _ a.hT;have hi:aV M t=(bD M q).code.getD p default:=by unfold aV;rw[a.top]
 have hlt:p<(bD M q).code.length:=by omega
 have hm:(bD M q).code.getD p default∈(bD M q).code:=Opt.K6 hlt;have hu:bD M q∈M.aL:=by
  unfold bD;rw[Jd,Je a.hq];exact fB _
 have hio:=yN ((hC.form.aL _ hu).2 _ hm);have e:Ver.ins (bD M q) (p:Int)=(bD M q).code.getD p default:=rfl;refine⟨(lJ M (bD M q) (aV M t) (st,hh)).stack,(lJ M (bD M q) (aV M t) (st,hh)).has,hlt,hi.symm,?_,fun x hx=>?_,by rw[hi];exact hio,by rw[hi];exact hC.iJ q a.hq _ hm,by rw[hi];exact(hC.form.aL _ hu).2 _ hm⟩
 ·refine aFR ?_ ?_
  ·rw[hi];exact hio.op
  ·rw[hi,←e];exact hf.ok
 ·have hn:=hf.next x (by rw[e,←hi];exact hx);rw[e,←hi]at hn;obtain⟨h2,g1,g2⟩:=hn;exact⟨(hc.kB _ _ g1).1,h2,g1,g2⟩
section
variable{M:aG}{T:Nat→Int→Option Shape}{t:Tk}{ch:List Nat}{fs0:List Fr}{ws0:List Int}{q p:Nat}{st:List Int}{hh:List Bool}{loc op:List Int}{i:aY}{st':List Int}{h':List Bool}
variable{ν:Type}{V:Env ν}{K:ν→Prop}(hV:mP V M K)(hok:Ok M T t ch)(a:At M T t fs0 ws0 q p st hh loc op)(hr:AO M T q p i st hh st' h')
include hok a
theorem tR:ws0.length+(loc.length+op.length)≤400:=by
 have:=(hok.lens _ hok.iV).1;rw[←jV,a.ws]at this;simpa using this
include hr
theorem on(h1:i.op≠21)(h3:i.op≠24)(h4:i.op≠25):∃h2,T q ((p+1:Nat):Int)=some (st',h2)∧Le h2 h':=by
 have:=hr.next ((p:Int)+1) (by
  unfold rR;rw[if_neg h1]
  split
  ·simp
  ·rw[if_neg (by omega)];simp)
 exact this.2
theorem goes(h1:i.op≠21)(h3:i.op≠24)(h4:i.op≠25){loc' op' ws:List Int}(hl:Loc (cR t) (bD M q).locals h' loc')(ht:eI (cR t) st' op')(hws:ws=ws0 ++(loc' ++op'))(hlen:ws.length≤400):
  Ok M T (setCur t (b6 (cur t) fs0 ⟨q,p+1,ws0.length⟩ ws)) ch:=by
 obtain⟨h2,g1,g2⟩:=on hok a hr h1 h3 h4;exact hok.next a g1 g2 hl ht hws hlen
include hV
theorem tH(h1:i.op≠21)(h3:i.op≠24)(h4:i.op≠25){op1:List Int}{s1:List Int}{ty v:Int}(he:st'=s1 ++[ty])(ht:eI (cR t) s1 op1)(hv:fR (cR t) ty v)(hl:Loc (cR t) (bD M q).locals h' loc){s:ν}(hK:K s)(hlen:op1.length≤op.length):
  mU M T K (push V v (setCur t (b6 (cur t) fs0 ⟨q,p+1,ws0.length⟩ (ws0 ++(loc ++op1))),s)):=by
 have hw:=tR hok a;refine UN hV hok.iV hK (fun hlt=>⟨ch,?_⟩) (by show(ws0 ++(loc ++op1)).length≤400;simp;omega);refine goes hok a hr h1 h3 h4 hl (he▸ht.app (eI.one hv)) ?_ (by simpa using hlt);show ws0 ++(loc ++op1) ++[v]=_;simp
end
theorem N4(a:Int):bG (IntKind.i64.wrap a):=by
 unfold bG IntKind.wrap;simp[IntKind.bits,IntKind.signed];omega
theorem YL(b:Bool):bG (yes b):=by cases b<;>(unfold bG yes;omega)
theorem aGt{op a b:Int}(ha:bG a)(hb:bG b)(h0:op=11∨op=12→b≠0):bG (lY op a b):=by
 unfold lY
 repeat' split
 all_goals first|exact N4 _|exact YL _|exact ha|(unfold bG;omega)|skip
 ·have h1:=Int.natAbs_tmod a b;have h2:a.natAbs % b.natAbs<b.natAbs:=Nat.mod_lt _ (by have:=h0 (by omega);omega);unfold bG at *;omega
 all_goals (unfold bits;exact N4 _)
theorem CR(c:Co)(fs0:List Fr)(f:Fr)(ws:List Int):fK (b6 c fs0 f ws)=f:=MR _ _
theorem aGv{gs:List Nat}{o x y:Int}(ho:8≤o∧o≤20)(hx:bG x)(hy:bG y)(h0:o=11∨o=12→y≠0)(hb:18<o→(x=0∨x=1)∧(y=0∨y=1)):fR gs (if 12<o then 2 else 1) (lY o x y):=by
 have h64:bG (lY o x y):=aGt hx hy h0
 split
 ·exact fR.NH (aGu (by assumption) ho.2 hb)
 ·exact fR.num h64
theorem aB2{a b c:List Int}{k:Nat}(h:k<b.length):(a ++(b ++c)).getD (a.length+k) 0=b.getD k 0:=by
 rw[Jd,xR (by omega),Nat.add_sub_cancel_left,rF h,Jd]
theorem aF3{a b c:List Int}{k:Nat}{v:Int}(h:k<b.length):(a ++(b ++c)).set (a.length+k) v=a ++(b.set k v ++c):=by
 rw[List.set_append_right _ _ (by omega),Nat.add_sub_cancel_left,List.set_append_left _ _ h]
section
variable{M:aG}{T:Nat→Int→Option Shape}{t:Tk}{ch:List Nat}{fs0:List Fr}{ws0:List Int}{q p:Nat}{st:List Int}{hh:List Bool}{loc op:List Int}{i:aY}{st':List Int}{h':List Bool}
variable{ν:Type}{V:Env ν}{K:ν→Prop}(hC:dF M T)(hV:mP V M K)(hok:Ok M T t ch)(a:At M T t fs0 ws0 q p st hh loc op)(hr:AO M T q p i st hh st' h'){s:ν}(hK:K s)
include hC hV hok a hr hK
theorem aAt(ho:i.op=1∨i.op=2∨i.op=3):mU M T K (exec V M i (eR (p+1) t,s)):=by
 have hn:=hok.iV;rw[a.pc];have hlen:=a.loc.len;unfold exec;simp only[mY hn,CR];rcases ho with ho|ho|ho
 ·rw[if_pos ho]
  cases hr.gN with
  |const _ _ hi=>
   refine tH hV hok a hr (by omega) (by omega) (by omega) rfl a.op ?_ a.loc hK (cG _);rw[ho];exact fR.num hr.iJ.1
  |_=>exfalso;omega
 ·rw[if_neg (by omega),if_pos ho];have htr:=aGs hr.inst ho
  cases hr.gN with
  |const _ _ hi=>
   refine tH hV hok a hr (by omega) (by omega) (by omega) rfl a.op ?_ a.loc hK (cG _);rw[ho];exact fR.NH htr
  |_=>exfalso;omega
 ·rw[if_neg (by omega),if_neg (by omega),if_pos ho];have hlo:=hr.ok.loc (.inl ho)
  cases hr.gN with
  |load _ _ hi hx=>
   refine tH hV hok a hr (by omega) (by omega) (by omega) rfl a.op ?_ a.loc hK (cG _);show fR _ _ ((ws0 ++(loc ++op)).getD (ws0.length+i.a.toNat) 0);rw[aB2 (by omega)];exact a.loc.ok _ (by omega) hx
  |_=>exfalso;omega
omit hV hK in
theorem qW(f:Fr){op1:List Int}{v:Int}(e:op=op1 ++[v]):last (setCur t (b6 (cur t) fs0 f (ws0 ++(loc ++op))))=v∧drop 1 (setCur t (b6 (cur t) fs0 f (ws0 ++(loc ++op))))=setCur t (b6 (cur t) fs0 f (ws0 ++(loc ++op1))):=by
 have hw:(b6 (cur t) fs0 f (ws0 ++(loc ++op))).ws=(ws0 ++(loc ++op1)) ++[v]:=by
  show ws0 ++(loc ++op)=_;rw[e];simp
 exact⟨EH hok.iV hw,drop_set hok.iV hw rfl⟩
theorem aAs(ho:i.op=4∨i.op=5∨i.op=6∨i.op=7∨i.op=22∨i.op=26∨i.op=28)(hw:i.op=26→V.full s i.a.toNat=false):mU M T K (exec V M i (eR (p+1) t,s)):=by
 have hn:=hok.iV;rw[a.pc];have hlen:=a.loc.len;have hwl:=tR hok a;have key:∀{s1:List Int} {ty:Int},st=s1 ++[ty]→∃op1 v,op=op1 ++[v]∧eI (cR t) s1 op1∧fR (cR t) ty v:=fun{s1 ty} e=>by
  have ht:=a.op;rw[e]at ht;obtain⟨x,y,e1,g1,g2⟩:=ht.split;obtain⟨v,rfl,hv⟩:=g2.qZ;exact⟨x,v,e1,g1,hv⟩
 have hio:=hr.ok;unfold exec;rcases ho with ho|ho|ho|ho|ho|ho|ho
 ·rw[if_neg (by omega),if_neg (by omega),if_neg (by omega),if_pos ho];have hlo:=hio.loc (.inr ho);have hgo:=fun{loc' op' ws}=>goes hok a hr (loc':=loc') (op':=op') (ws:=ws) (by omega) (by omega) (by omega)
  cases hr.gN with
  |store s1 h1 hi=>
   obtain⟨op1,v,e1,g1,g2⟩:=key rfl;obtain⟨hl,hd⟩:=qW hC hok a hr ⟨q,p+1,ws0.length⟩ e1;simp only[hl,hd,mY hn,set_set,CR];refine⟨.inr (.inr ⟨ch,?_⟩),hK⟩;refine hgo (loc':=loc.set i.a.toNat v) (op':=op1) (a.loc.put (by omega) g2) g1 (aF3 (by omega)) ?_;show((ws0 ++(loc ++op1)).set _ v).length≤400;rw[e1]at hwl;simp at hwl⊢;omega
  |_=>exfalso;omega
 ·(repeat rw[if_neg (by omega)]);rw[if_pos ho]
  have hgo:=fun{loc' op' ws}=>goes hok a hr (loc':=loc') (op':=op') (ws:=ws) (by omega) (by omega) (by omega)
  cases hr.gN with
  |drop s1 h1 ty hi=>
   obtain⟨op1,v,e1,g1,g2⟩:=key rfl;obtain⟨hl,hd⟩:=qW hC hok a hr ⟨q,p+1,ws0.length⟩ e1;simp only[hd];rw[e1]at hwl;exact⟨.inr (.inr ⟨ch,hgo a.loc g1 rfl (by simp at hwl⊢;omega)⟩),hK⟩
  |_=>exfalso;omega
 ·(repeat rw[if_neg (by omega)]);rw[if_pos ho]
  have hpu:=fun{op1 s1 ty v}=>tH hV hok a hr (by omega) (by omega) (by omega) (op1:=op1) (s1:=s1) (ty:=ty) (v:=v)
  cases hr.gN with
  |neg s1 h1 hi=>
   obtain⟨op1,v,e1,g1,g2⟩:=key rfl;obtain⟨hl,hd⟩:=qW hC hok a hr ⟨q,p+1,ws0.length⟩ e1;simp only[hl,hd];exact hpu rfl g1 (fR.num (N4 _)) a.loc hK (by rw[e1];simp)
  |_=>exfalso;omega
 ·(repeat rw[if_neg (by omega)]);rw[if_pos ho]
  have hpu:=fun{op1 s1 ty v}=>tH hV hok a hr (by omega) (by omega) (by omega) (op1:=op1) (s1:=s1) (ty:=ty) (v:=v)
  cases hr.gN with
  |not s1 h1 hi=>
   obtain⟨op1,v,e1,g1,g2⟩:=key rfl;obtain⟨hl,hd⟩:=qW hC hok a hr ⟨q,p+1,ws0.length⟩ e1;simp only[hl,hd];refine hpu rfl g1 (fR.NH ?_) a.loc hK (by rw[e1];simp);rcases g2.2.1 rfl with h|h<;>rw[h]<;>decide
  |_=>exfalso;omega
 ·(repeat rw[if_neg (by omega)]);rw[if_pos ho]
  have hgo:=fun{loc' op' ws}=>goes hok a hr (loc':=loc') (op':=op') (ws:=ws) (by omega) (by omega) (by omega)
  have hnx:=hr.next i.a (by unfold rR;rw[if_neg (by omega),if_pos ho];simp)
  cases hr.gN with
  |eY s1 h1 hi=>
   obtain⟨op1,v,e1,g1,g2⟩:=key rfl;obtain⟨hl,hd⟩:=qW hC hok a hr ⟨q,p+1,ws0.length⟩ e1;simp only[hl,hd];rw[e1]at hwl
   split
   ·obtain⟨h0,h2,k1,k2⟩:=hnx;refine⟨.inr (.inr ⟨ch,?_⟩),hK⟩;have e:eR i.a.toNat (setCur t (b6 (cur t) fs0 ⟨q,p+1,ws0.length⟩ (ws0 ++(loc ++op1))))=setCur t (b6 (cur t) fs0 ⟨q,i.a.toNat,ws0.length⟩ (ws0 ++(loc ++op1))):=by
     unfold eR;rw[mY hn,set_set,CR];unfold xH b6;rw[FY]
    rw[e];have hc:((i.a.toNat:Nat):Int)=i.a:=by omega
    exact hok.next a (by rw[hc];exact k1) k2 a.loc g1 rfl (by simp at hwl⊢;omega)
   ·exact⟨.inr (.inr ⟨ch,hgo a.loc g1 rfl (by simp at hwl⊢;omega)⟩),hK⟩
  |_=>exfalso;omega
 ·(repeat rw[if_neg (by omega)]);rw[if_pos ho]
  have hgo:=fun{loc' op' ws}=>goes hok a hr (loc':=loc') (op':=op') (ws:=ws) (by omega) (by omega) (by omega)
  have hb:=hio.box (.inl ho)
  cases hr.gN with
  |send s1 h1 hi=>
   obtain⟨op1,v,e1,g1,g2⟩:=key rfl;obtain⟨hl,hd⟩:=qW hC hok a hr ⟨q,p+1,ws0.length⟩ e1;simp only[hl,hd];rw[e1]at hwl;exact⟨.inr (.inr ⟨ch,hgo a.loc g1 rfl (by simp at hwl⊢;omega)⟩),hV.tell _ _ (hV.put s i.a.toNat v hK (by omega) (hw ho) g2.1 g2.2.1)⟩
  |_=>exfalso;omega
 ·(repeat rw[if_neg (by omega)]);rw[if_pos ho]
  have hgo:=fun{loc' op' ws}=>goes hok a hr (loc':=loc') (op':=op') (ws:=ws) (by omega) (by omega) (by omega)
  cases hr.gN with
  |out s1 h1 ty hi=>
   obtain⟨op1,v,e1,g1,g2⟩:=key rfl;obtain⟨hl,hd⟩:=qW hC hok a hr ⟨q,p+1,ws0.length⟩ e1;simp only[hl,hd];rw[e1]at hwl;have h:=hgo a.loc g1 rfl (by simp at hwl⊢;omega);exact⟨.inr (.inr ⟨ch,⟨h.now,h.dY,h.nodup,h.mem,h.going,h.chain,h.root,h.top,h.wait,h.fresh,h.held,h.lens,h.kinds,h.bR⟩⟩),hV.tell _ _ hK⟩
  |_=>exfalso;omega
theorem aAx(ho:8≤i.op∧i.op≤20):mU M T K (exec V M i (eR (p+1) t,s)):=by
 have hn:=hok.iV;rw[a.pc];have hpu:=fun{op1 s1 ty v}=>tH hV hok a hr (by omega) (by omega) (by omega) (op1:=op1) (s1:=s1) (ty:=ty) (v:=v)
 have key:∃s1 t1 t2 t3,st=s1 ++[t1,t2]∧st'=s1 ++[t3]∧h'=hh∧(18<i.op→t1=2∧t2=2)∧t3=if 12<i.op then 2 else 1:=by
  cases hr.gN with
  |arith s1 h hi=>exact⟨s1,1,1,1,rfl,rfl,rfl,by omega,by rw[if_neg (by omega)]⟩
  |eq s1 h ty hi ht=>exact⟨s1,ty,ty,2,rfl,rfl,rfl,by omega,by rw[if_pos (by omega)]⟩
  |cmp s1 h hi=>exact⟨s1,1,1,2,rfl,rfl,rfl,by omega,by rw[if_pos (by omega)]⟩
  |KO s1 h hi=>exact⟨s1,2,2,2,rfl,rfl,rfl,fun _=>⟨rfl,rfl⟩,by rw[if_pos (by omega)]⟩
  |_=>exfalso;omega
 obtain⟨s1,t1,t2,t3,k1,k2,k3,k4,k5⟩:=key;have ht:=a.op;rw[k1]at ht;obtain⟨op1,y,e1,g1,g2⟩:=ht.split;obtain⟨x,y,rfl,hx,hy⟩:=g2.xM;obtain⟨l1,d1⟩:=qW hC hok a hr ⟨q,p+1,ws0.length⟩ (op1:=op1 ++[x]) (v:=y) (by rw[e1];simp);have hw2:(b6 (cur t) fs0 ⟨q,p+1,ws0.length⟩ (ws0 ++(loc ++(op1 ++[x])))).ws=(ws0 ++(loc ++op1)) ++[x]:=by
  show ws0 ++(loc ++(op1 ++[x]))=_;simp
 have l2:=EH hn hw2;have d2:=drop_set hn hw2 (n:=1) rfl;unfold exec
 (repeat rw[if_neg (by omega)]);rw[if_pos ho]
 simp only[l1,d1,l2,d2]
 split
 ·exact tN hV hK
 ·rename_i hz
  refine hpu (op1:=op1) (ty:=t3) k2 g1 ?_ (by rw[k3];exact a.loc) hK (by rw[e1];simp);rw[k5];exact aGv ho hx.1 hy.1 (fun h h0=>hz ⟨h,h0⟩) (fun h=>by
   obtain⟨q1,q2⟩:=k4 h;exact⟨hx.2.1 q1,hy.2.1 q2⟩)
theorem aAr(ho:i.op=21∨i.op=27)(hw:i.op=27→V.empty s i.a.toNat=false):mU M T K (exec V M i (eR (p+1) t,s)):=by
 have hn:=hok.iV;rw[a.pc];have hwl:=tR hok a;unfold exec;rcases ho with ho|ho
 ·(repeat rw[if_neg (by omega)]);rw[if_pos ho]
  have hnx:=hr.next i.a (by unfold rR;rw[if_pos ho];simp)
  cases hr.gN with
  |jump s1 h1 hi=>
   obtain⟨h0,h2,k1,k2⟩:=hnx;refine⟨.inr (.inr ⟨ch,?_⟩),hK⟩;have e:eR i.a.toNat (setCur t (b6 (cur t) fs0 ⟨q,p+1,ws0.length⟩ (ws0 ++(loc ++op))))=setCur t (b6 (cur t) fs0 ⟨q,i.a.toNat,ws0.length⟩ (ws0 ++(loc ++op))):=by
    unfold eR;rw[mY hn,set_set,CR];unfold xH b6;rw[FY]
   show Ok M T (eR _ _) ch;rw[e];have hc:((i.a.toNat:Nat):Int)=i.a:=by omega
   exact hok.next a (by rw[hc];exact k1) k2 a.loc a.op rfl (by simp;omega)
  |_=>exfalso;omega
 ·(repeat rw[if_neg (by omega)]);rw[if_pos ho]
  have hb:=hr.ok.box (.inr ho);have htk:=hV.take s i.a.toNat hK (by omega) (hw ho);have hbt:plain (M.boxes.getD i.a.toNat default).1=true:=by
   have hm:M.boxes.getD i.a.toNat default∈M.boxes:=by
    rw[Jd,Je (by omega)];exact fB _
   exact(hC.form.boxes _ hm).1
  have hbt':(M.boxes.getD i.a.toNat default).1<10:=by
   unfold plain at hbt;rw[Bool.or_eq_true,JV,JV]at hbt;omega
  have hpu:=fun{op1 s1 ty v}=>tH hV hok a hr (by omega) (by omega) (by omega) (op1:=op1) (s1:=s1) (ty:=ty) (v:=v)
  cases hr.gN with
  |recv s1 h1 hi=>exact hpu rfl a.op ⟨htk.2.1,htk.2.2,fun h=>by omega⟩ a.loc (hV.tell _ _ htk.1) (cG _)
  |_=>exfalso;omega
end
theorem yK{M:aG}{u:bS}(h:Ver.head M u=0):u.params.toNat≤u.locals.length∧u.locals.length≤200∧(u.kind=3→plain u.result=true∧plain u.aS=true):=by
 unfold Ver.head at h
 by_cases e1:u.kind≠2∧u.kind≠3∧u.kind≠4
 ·rw[if_pos e1]at h;cases h
 rw[if_neg e1]at h
 by_cases e2:200<u.locals.length∨u.params<0∨6<u.params∨(u.locals.length:Int)<u.params∨(u.kind=4∧0<u.params)
 ·rw[if_pos e2]at h;cases h
 rw[if_neg e2]at h
 by_cases e3:u.code.length<1∨4000<u.code.length
 ·rw[if_pos e3]at h;cases h
 rw[if_neg e3]at h
 by_cases e4:(u.kind≠4∧plain u.result=false)∨(u.kind=3∧plain u.aS=false)
 ·rw[if_pos e4]at h;cases h
 refine⟨by omega,by omega,fun hk=>⟨?_,?_⟩⟩
 ·cases hp:plain u.result with
  |true=>rfl
  |false=>exact absurd (.inl ⟨by omega,hp⟩) e4
 ·cases hp:plain u.aS with
  |true=>rfl
  |false=>exact absurd (.inr ⟨hk,hp⟩) e4
theorem vL{M:aG}{T:Nat→Int→Option Shape}(hC:dF M T){k:Nat}(hk:k<M.aL.length):Ver.head M (bD M k)=0:=by
 have hu:bD M k∈M.aL:=by
  unfold bD;rw[Jd,Je hk];exact fB _
 exact(hC.form.aL _ hu).1
theorem aEM{gs:List Nat}{t:Int}(h:plain t=true):fR gs t 0:=by
 unfold plain at h;rw[Bool.or_eq_true,JV,JV]at h;exact⟨by unfold bG;omega,fun _=> .inl rfl,fun h=>by omega⟩
theorem aBa{u:bS}{j:Nat}(h:(Ver.j0 u).getD j false=true):j<u.params.toNat:=by
 unfold Ver.j0 at h;refine Nat.lt_of_not_le fun hle=>?_
 rw[Jd,xR (by simp;omega)]at h;simp at h
 cases hx:(List.replicate (u.locals.length-u.params.toNat) false)[j-u.params.toNat]? with
 |none=>rw[hx]at h;cases h
 |some b=>
  rw[hx]at h;have:=DC (jB hx);subst this
  cases h
theorem MY{M:aG}{T:Nat→Int→Option Shape}(hC:dF M T){gs:List Nat}{k:Nat}(hk:k<M.aL.length){a:List Int}(ha:eI gs ((bD M k).locals.take (bD M k).params.toNat) a){ws:List Int}(hw:ws.length=(bD M k).locals.length)(hp:∀j,j<(bD M k).params.toNat→ws.getD j 0=a.getD j 0)(h64:∀v∈ws,bG v):uE M T gs k 0 ws []:=by
 obtain⟨h0,h1,h2⟩:=(hC.cert k hk).start;have hh:=yK (vL hC hk);refine⟨hk,[],h0,ws,[],by simpa using h1,by simp,⟨hw,fun j hj hx=>?_,h64⟩, .nil⟩;have hjp:=aBa (h2.2 j hx);rw[hp j hjp];have key:∀{ts xs:List Int},eI gs ts xs→∀j,j<ts.length→fR gs (ts.getD j 0) (xs.getD j 0):=by
  intro ts xs h
  induction h with
  |nil=>intro j hj;simp at hj
  |cons g1 _ ih=>
   intro j hj
   cases j with
   |zero=>exact g1
   |succ j=>exact ih j (by simpa using hj)
 have:=key ha j (by simp;omega);rw[Jd,AW,if_pos hjp,←Jd]at this;exact this
theorem iA.I5{M:aG}{T:Nat→Int→Option Shape}{gs:List Nat}{fs:List Fr}{ws:List Int}{ty v:Int}(h:iA M T gs fs ws [ty])(hv:fR gs ty v):iA M T gs fs (ws ++[v]) []:=by
 obtain⟨fs0,ws0,q,p,seg,e1,e2,⟨hq,st,hh,loc,op,g1,g2,g3,g4⟩,hu⟩:=h.view;rw[e1,e2,g2];have e:ws0 ++(loc ++op) ++[v]=ws0 ++(loc ++(op ++[v])):=by simp
 rw[e];exact hu.CO ⟨hq,st ++[ty],hh,loc,op ++[v],by simpa using g1,rfl,g3,g4.app (eI.one hv)⟩
section
variable{M:aG}{T:Nat→Int→Option Shape}{t:Tk}{ch:List Nat}{fs0:List Fr}{ws0:List Int}{q p:Nat}{st:List Int}{hh:List Bool}{loc op:List Int}{i:aY}{st':List Int}{h':List Bool}
variable{ν:Type}{V:Env ν}{K:ν→Prop}(hC:dF M T)(hV:mP V M K)(hok:Ok M T t ch)(a:At M T t fs0 ws0 q p st hh loc op)(hr:AO M T q p i st hh st' h'){s:ν}(hK:K s)
theorem UD(hV:mP V M K):∀(n:Nat) (r:Tk×ν),r.1.st=5→K r.2→(eV V n r).1.st=5∧K (eV V n r).2
 |0,r,h,hK=>⟨h,hK⟩
 |n+1,r,h,hK=>by
  unfold eV;have:(push V 0 r).1.st=5∧K (push V 0 r).2:=by
   unfold push
   split
   ·unfold dS;rw[if_pos h];exact⟨h,hK⟩
   ·exact⟨h,hK⟩
  exact UD hV n _ this.1 this.2
theorem UJ(hV:mP V M K){t:Tk}(hn:t.now<t.cs.length){s:ν}(hK:K s):∀(n:Nat) (c:Co),c.ws.length≤400→((eV V n (setCur t c,s)).1.st=5∧K (eV V n (setCur t c,s)).2)∨(c.ws.length+n≤400∧eV V n (setCur t c,s)=(setCur t {c with ws:=c.ws ++List.replicate n 0},s))
 |0,c,hl=> .inr ⟨hl,by unfold eV;simp⟩
 |n+1,c,hl=>by
  unfold eV
  by_cases h:c.ws.length=400
  ·left
   have e:push V 0 (setCur t c,s)=dS V 4 (setCur t c,s):=by unfold push;simp only[mY hn];rw[if_pos h]
   rw[e];have ht:(dS V 4 (setCur t c,s)).1.st=5∧K (dS V 4 (setCur t c,s)).2:=by
    unfold dS
    split
    ·rename_i h5;exact⟨h5,hK⟩
    ·exact⟨rfl,hV.tell _ _ hK⟩
   exact UD hV n _ ht.1 ht.2
  ·have e:push V 0 (setCur t c,s)=(setCur t {c with ws:=c.ws ++[0]},s):=by
    unfold push;simp only[mY hn,set_set];rw[if_neg h]
   rw[e];rcases UJ hV hn hK n {c with ws:=c.ws ++[0]} (by simp;omega)with g|⟨g1,g2⟩
   ·exact .inl g
   ·refine .inr ⟨by simp at g1;omega,?_⟩;rw[g2];congr 2;simp[List.replicate_succ]
include hC hV hok a hr hK
theorem aAp(ho:i.op=23):mU M T K (exec V M i (eR (p+1) t,s)):=by
 have hn:=hok.iV;rw[a.pc];have hwl:=tR hok a;obtain⟨k0,k1,k2⟩:=unit_eq (hr.ok.call ho);have hk:i.a.toNat<M.aL.length:=by omega
 have hkk:(bD M i.a.toNat).kind=2:=k2;have hhf:=yK (vL hC hk);have hon:=on hok a hr (by omega) (by omega) (by omega);have hlens:=(hok.lens _ hn).2;rw[←jV,a.fr]at hlens;unfold exec
 (repeat rw[if_neg (by omega)]);rw[if_pos ho]
 cases hr.gN with
 |call s1 h1 hi=>
  obtain⟨op1,ar,e1,g1,g2⟩:=a.op.split;have harl:ar.length=(bD M i.a.toNat).params.toNat:=by
   have:=g2.len;rw[←this];show((bD M i.a.toNat).locals.take (bD M i.a.toNat).params.toNat).length=_;simp;omega
  unfold rN;simp only[mY hn,set_set]
  split
  ·exact tN hV hK
  ·rename_i h40
   have hfr:(b6 (cur t) fs0 ⟨q,p+1,ws0.length⟩ (ws0 ++(loc ++op))).fr=fs0 ++[⟨q,p+1,ws0.length⟩]:=rfl;have hws:(b6 (cur t) fs0 ⟨q,p+1,ws0.length⟩ (ws0 ++(loc ++op))).ws=(ws0 ++(loc ++op1)) ++ar:=by
    show ws0 ++(loc ++op)=_;rw[e1];simp
   have hbase:(b6 (cur t) fs0 ⟨q,p+1,ws0.length⟩ (ws0 ++(loc ++op))).ws.length-(bD M i.a.toNat).params.toNat=(ws0 ++(loc ++op1)).length:=by rw[hws,Jl,harl];omega
   rw[hbase];have hlen:(ws0 ++(loc ++op)).length≤400:=by simp;omega
   rcases UJ hV hn hK ((bD M i.a.toNat).locals.length-(bD M i.a.toNat).params.toNat) {b6 (cur t) fs0 ⟨q,p+1,ws0.length⟩ (ws0 ++(loc ++op))with fr:=(fs0 ++[⟨q,p+1,ws0.length⟩]) ++[⟨i.a.toNat,0,(ws0 ++(loc ++op1)).length⟩]} hlen with g|⟨g3,g4⟩
   ·exact⟨.inl g.1,g.2⟩
   ·rw[show({b6 (cur t) fs0 ⟨q,p+1,ws0.length⟩ (ws0 ++(loc ++op))with fr:=(b6 (cur t) fs0 ⟨q,p+1,ws0.length⟩ (ws0 ++(loc ++op))).fr ++[⟨i.a.toNat,0,(ws0 ++(loc ++op1)).length⟩]}:Co)={b6 (cur t) fs0 ⟨q,p+1,ws0.length⟩ (ws0 ++(loc ++op))with fr:=(fs0 ++[⟨q,p+1,ws0.length⟩]) ++[⟨i.a.toNat,0,(ws0 ++(loc ++op1)).length⟩]}from rfl,g4];refine⟨.inr (.inr ⟨ch,hok.put rfl rfl ?_ ?_ ⟨?_,?_⟩⟩),hK⟩
    ·show bot ((fs0 ++[_]) ++[_])=bot (cur t).fr;rw[OX _ _ (by simp),a.fr];exact HL _ _ _ rfl
    ·have e2:({b6 (cur t) fs0 ⟨q,p+1,ws0.length⟩ (ws0 ++(loc ++op))with fr:=(fs0 ++[⟨q,p+1,ws0.length⟩]) ++[⟨i.a.toNat,0,(ws0 ++(loc ++op1)).length⟩]}:Co).ws ++List.replicate ((bD M i.a.toNat).locals.length-(bD M i.a.toNat).params.toNat) 0=(ws0 ++(loc ++op1)) ++(ar ++List.replicate ((bD M i.a.toNat).locals.length-(bD M i.a.toNat).params.toNat) 0):=by
      show(b6 (cur t) fs0 ⟨q,p+1,ws0.length⟩ (ws0 ++(loc ++op))).ws ++_=_;rw[hws];simp
     show iA M T (cR t) ((fs0 ++[_]) ++[_]) (_ ++List.replicate _ 0) [];rw[e2];obtain⟨h2,t1,t2⟩:=hon;refine .more (a.under.CO ⟨a.hq,s1,h2,loc,op1,t1,rfl,a.loc.le t2,g1⟩) hkk (MY hC hk g2 (by simp[harl];omega) (fun j hj=>?_) (fun v hv=>?_))
     ·rw[Jd,rF (by omega),Jd]
     ·rcases dH.1 hv with hv|hv
      ·exact g2.iJ v hv
      ·rw[DC hv];unfold bG;omega
    ·show(_ ++List.replicate _ 0).length≤400;rw[Jl,AS];exact g3
    ·show((fs0 ++[_]) ++[_]).length≤40;rw[hfr]at h40;simp at hlens h40⊢;omega
 |_=>exfalso;omega
theorem aAv(ho:i.op=24):mU M T K (exec V M i (eR (p+1) t,s)):=by
 have hn:=hok.iV;rw[a.pc];have hwl:=tR hok a;unfold exec
 (repeat rw[if_neg (by omega)]);rw[if_pos ho]
 have hkd:=hok.kinds _ hn;rw[←jV,a.fr]at hkd;have hlens:=(hok.lens _ hn).2;rw[←jV,a.fr]at hlens
 cases hr.gN with
 |ret h1 hi hk2=>
  obtain⟨v,e1,hv⟩:=a.op.qZ;rcases a.under with⟨u1,u2⟩|⟨u1,u2⟩
  ·subst u1;have hb:bot ([] ++[(⟨q,p,ws0.length⟩:Fr)])=q:=rfl;rw[hb,hk2]at hkd
   exfalso
   split at hkd<;>omega
  ·have hl:=EH (c:=b6 (cur t) fs0 ⟨q,p+1,ws0.length⟩ (ws0 ++(loc ++op))) (w:=ws0 ++loc) (v:=v) hn (by show ws0 ++(loc ++op)=_;rw[e1];simp);unfold ret;simp only[hl,mY hn,set_set,CR];have hfs:(b6 (cur t) fs0 ⟨q,p+1,ws0.length⟩ (ws0 ++(loc ++op))).fr.take ((b6 (cur t) fs0 ⟨q,p+1,ws0.length⟩ (ws0 ++(loc ++op))).fr.length-1)=fs0:=by
    show(fs0 ++[_]).take ((fs0 ++[_]).length-1)=fs0;simp
   have hws:((b6 (cur t) fs0 ⟨q,p+1,ws0.length⟩ (ws0 ++(loc ++op))).ws.take ((b6 (cur t) fs0 ⟨q,p+1,ws0.length⟩ (ws0 ++(loc ++op))).ws.length-1)).take ws0.length=ws0:=by
    show((ws0 ++(loc ++op)).take ((ws0 ++(loc ++op)).length-1)).take ws0.length=ws0;rw[List.take_take,Nat.min_eq_left (by rw[e1];simp)];simp
   rw[hfs,hws];have hne:fs0≠[]:=fun h=>by
    subst h;obtain⟨f1,w1,q1,p1,sg,x1, -⟩:=u1.view;simp at x1
   refine UN hV hn hK (fun hlt=>⟨ch,hok.put rfl rfl ?_ (u1.I5 hv) ⟨hlt' hlt,?_⟩⟩) ?_
   ·show bot fs0=bot (cur t).fr;rw[a.fr,OX _ _ hne]
   ·show fs0.length≤40;simp at hlens;omega
   ·show ws0.length≤400;omega
 |_=>exfalso;omega
where hlt' {ws:List Int} {v:Int} (h:ws.length+1≤400):(ws ++[v]).length≤400:=by simpa using h
end
section
variable{M:aG}{T:Nat→Int→Option Shape}{t:Tk}{ch:List Nat}{fs0:List Fr}{ws0:List Int}{q p:Nat}{st:List Int}{hh:List Bool}{loc op:List Int}{i:aY}{st':List Int}{h':List Bool}
theorem Ok.BW(h:Ok M T t ch){j:Nat}(hj:ch[1]?=some j):t.now≠j:=fun e=>by
 subst e;have:=y8 h.nodup h.now hj;omega
theorem Ok.back(h:Ok M T t ch){j:Nat}(hj:ch[1]?=some j){c:Co}(hst:c.st=3∨c.st=1)(hb:bot c.fr=bot (cur t).fr)(hlen:c.ws.length≤400∧c.fr.length≤40)
  (hheld:c.st=1→iA M T (cR t) c.fr c.ws [(bD M (bot c.fr)).aS]) {v:Int} (hv:fR (cR t) (bD M (bot (cur t).fr)).result v) (hl:(co t j).ws.length+1≤400):
  Ok M T (setCur {setCur t c with now:=j} {co t j with ws:=(co t j).ws ++[v]}) ch.tail:=by
 have hn:=h.iV;have hne:=h.BW hj;have hjl:j<t.cs.length:=h.mem _ (jB hj);have hw:=h.wait 0 t.now j h.now hj;rw[←jV]at hw;have ht:∀i:Nat,ch.tail[i]?=ch[i+1]?:=fun i=>by rw[List.getElem?_tail]
 have hch:ch=t.now::ch.tail:=by
  cases ch with
  |nil=>have:=h.now;simp at this
  |cons x r=>have:=h.now;simp at this;simp[this]
 have hnd:=h.nodup;rw[hch,xX]at hnd;have hg1:cR (setCur t c)=cR t:=BK hn hb;obtain⟨t1,e1⟩:∃t1:Tk,t1={setCur t c with now:=j}:=⟨_,rfl⟩;have hl1:t1.cs.length=t.cs.length:=by rw[e1];exact nG t c
 have hn1:t1.now=j:=by rw[e1]
 have hgs1:cR t1=cR t:=by rw[e1];exact hg1
 have hco1:∀k,co t1 k=if t.now=k then c else co t k:=fun k=>by rw[e1];exact pR hn
 rw[←e1];obtain⟨c2,e2⟩:∃c2:Co,c2={co t j with ws:=(co t j).ws ++[v]}:=⟨_,rfl⟩;rw[←e2];have hbot2:bot c2.fr=bot (co t1 t1.now).fr:=by rw[hn1,hco1,if_neg hne,e2]
 have hn1l:t1.now<t1.cs.length:=by rw[hl1,hn1];exact hjl
 have hg2:cR (setCur t1 c2)=cR t:=by rw[←hgs1];exact BK hn1l hbot2
 have hl2:(setCur t1 c2).cs.length=t.cs.length:=by rw[nG,hl1]
 have hco:∀k,co (setCur t1 c2) k=if j=k then c2 else if t.now=k then c else co t k:=fun k=>by
  show co (dM t1 t1.now c2) k=_;rw[pR hn1l,hn1,hco1]
 have hnowc:(setCur t1 c2).now=j:=hn1;have hother:∀k,j≠k→t.now≠k→co (setCur t1 c2) k=co t k:=fun k a b=>by rw[hco,if_neg a,if_neg b]
 have hatj:co (setCur t1 c2) j=c2:=by rw[hco,if_pos rfl]
 have hatn:co (setCur t1 c2) t.now=c:=by rw[hco,if_neg (Ne.symm hne),if_pos rfl]
 have hc2:c2.st=(co t j).st∧c2.up=(co t j).up∧c2.fr=(co t j).fr:=by rw[e2];exact⟨rfl,rfl,rfl⟩
 have hmemj:j∈ch:=jB hj;have hstj:(co t j).st=2:=(h.going j hjl).2 hmemj;have hb':∀k,bot (co (setCur t1 c2) k).fr=bot (co t k).fr:=fun k=>by
  rw[hco]
  split
  ·rename_i e;subst e;rw[hc2.2.2]
  ·split
   ·rename_i e;subst e;exact hb
   ·rfl
 have htm:∀k,k∈ch.tail→k∈ch∧t.now≠k:=fun k hk=>⟨List.mem_of_mem_tail hk,fun e=>by subst e;exact hnd.1 hk⟩
 refine⟨?_,by rw[hl2];exact h.dY,hnd.2,fun k hk=>by rw[hl2];exact h.mem k (htm k hk).1,fun k hk=>?_,fun i k hk=>?_,fun i k hk h0=>?_,?_,fun i d k hd hk=>?_,fun k hk h0=>?_,fun k hk h1=>?_,fun k hk=>?_,fun k hk=>?_,fun k hk=>?_⟩
 ·rw[ht,hnowc];exact hj
 ·rw[hl2]at hk
  by_cases hkj:j=k
  ·subst hkj;rw[hatj,hc2.1];exact⟨fun _=>by rw[hch]at hmemj;rcases eB.1 hmemj with e|e;exact absurd e.symm hne;exact e,fun _=>hstj⟩
  ·by_cases hkn:t.now=k
   ·subst hkn;rw[hatn];exact⟨fun e=>by omega,fun e=>absurd e hnd.1⟩
   ·rw[hother k hkj hkn,h.going k hk];exact⟨fun e=>by rw[hch]at e;rcases eB.1 e with e|e;exact absurd e.symm hkn;exact e,fun e=>(htm k e).1⟩
 ·rw[ht]at hk;have hm:=htm k (by rw[←ht]at hk;exact jB hk);have hup:(co (setCur t1 c2) k).up=(co t k).up:=by
   by_cases hkj:j=k
   ·subst hkj;rw[hatj,hc2.2.1]
   ·rw[hother k hkj hm.2]
  rw[hup,ht];exact h.chain (i+1) k hk
 ·rw[ht]at hk h0;exact h.root (i+1) k hk h0
 ·rw[hg2,jV,hnowc,hatj,e2];exact hw.I5 hv
 ·rw[ht]at hd hk;have hkj:j≠k:=fun e=>by
   subst e;have:=y8 h.nodup hj hk;omega
  have hm:=htm k (by rw[←ht]at hk;exact jB hk);rw[hg2,hb',hother k hkj hm.2];exact h.wait (i+1) d k hd hk
 ·rw[hl2]at hk
  by_cases hkj:j=k
  ·subst hkj;rw[hatj,hc2.1]at h0;omega
  ·by_cases hkn:t.now=k
   ·subst hkn;rw[hatn]at h0;omega
   ·rw[hother k hkj hkn]at h0⊢;rw[hg2];exact h.fresh k hk h0
 ·rw[hl2]at hk
  by_cases hkj:j=k
  ·subst hkj;rw[hatj,hc2.1]at h1;omega
  ·by_cases hkn:t.now=k
   ·subst hkn;rw[hatn]at h1⊢;rw[hg2];exact hheld h1
   ·rw[hother k hkj hkn]at h1⊢;rw[hg2];exact h.held k hk h1
 ·rw[hl2]at hk;rw[hco]
  split
  ·rename_i e;subst e
   rw[e2];exact⟨by simpa using hl,(h.lens _ hk).2⟩
  ·split
   ·exact hlen
   ·exact h.lens k hk
 ·rw[hl2]at hk;rw[hb'];exact h.kinds k hk
 ·rw[hl2]at hk;rw[hco]
  split
  ·rw[hc2.1,hstj];omega
  ·split
   ·omega
   ·exact h.bR k hk
theorem Ok.RQ(h:Ok M T t ch){k:Nat}(hk:k<t.cs.length)(hk2:(co t k).st=0∨(co t k).st=1){c:Co}(hst:c.st=(cur t).st)(hup:c.up=(cur t).up)(hb:bot c.fr=bot (cur t).fr)(hlen:c.ws.length≤400∧c.fr.length≤40)
  (hs:iA M T (cR t) c.fr c.ws [(bD M (bot (co t k).fr)).result]) {ws:List Int} (htop:iA M T (cR t) (co t k).fr ws []) (hwl:ws.length≤400):
  Ok M T {dM (setCur t c) k {co t k with st:=2,up:=some t.now,ws:=ws}with now:=k} (k::ch):=by
 have hn:=h.iV;have hin:t.now∈ch:=jB h.now;have hst2:(cur t).st=2:=(h.going _ hn).2 hin;have hknow:t.now≠k:=fun e=>by subst e;rw[←jV]at hk2;omega
 have hkch:k∉ch:=fun hm=>by have:=(h.going k hk).2 hm;omega
 obtain⟨c2,e2⟩:∃c2:Co,c2={co t k with st:=2,up:=some t.now,ws:=ws}:=⟨_,rfl⟩;rw[←e2];obtain⟨t2,et⟩:∃t2:Tk,t2={dM (setCur t c) k c2 with now:=k}:=⟨_,rfl⟩;rw[←et];have hk':k<(setCur t c).cs.length:=by rw[nG];exact hk
 have hl2:t2.cs.length=t.cs.length:=by rw[et];show(dM _ _ _).cs.length=_;rw[aFX,nG]
 have hco:∀j,co t2 j=if k=j then c2 else if t.now=j then c else co t j:=fun j=>by
  rw[et];show co (dM (setCur t c) k c2) j=_;rw[pR hk']
  split
  ·rfl
  ·exact pR hn
 have hb2:bot c2.fr=bot (co t k).fr:=by rw[e2]
 have hb':∀j,bot (co t2 j).fr=bot (co t j).fr:=fun j=>by
  rw[hco]
  split
  ·rename_i e;subst e;exact hb2
  ·split
   ·rename_i e;subst e;exact hb
   ·rfl
 have hg:cR t2=cR t:=by
  rw[et];show cR (dM (setCur t c) k c2)=_;rw[BK hk' (by rw[hb2];show _=bot (co (dM t t.now c) k).fr;rw[pR hn,if_neg hknow])];exact BK hn hb
 have hatk:co t2 k=c2:=by rw[hco,if_pos rfl]
 have hatn:co t2 t.now=c:=by rw[hco,if_neg (Ne.symm hknow),if_pos rfl]
 have hother:∀j,k≠j→t.now≠j→co t2 j=co t j:=fun j a b=>by rw[hco,if_neg a,if_neg b]
 have hst':∀j,k≠j→(co t2 j).st=(co t j).st:=fun j a=>by
  rw[hco,if_neg a]
  split
  ·rename_i e;subst e;exact hst
  ·rfl
 have hup':∀j,k≠j→(co t2 j).up=(co t j).up:=fun j a=>by
  rw[hco,if_neg a]
  split
  ·rename_i e;subst e;exact hup
  ·rfl
 have hnow2:t2.now=k:=by rw[et]
 have hc2:c2.st=2∧c2.up=some t.now∧c2.ws=ws∧c2.fr=(co t k).fr:=by rw[e2];exact⟨rfl,rfl,rfl,rfl⟩
 refine⟨by rw[hnow2];rfl,by rw[hl2];exact h.dY,xX.2 ⟨hkch,h.nodup⟩,fun j hj=>?_,fun j hj=>?_,fun i j hj=>?_,fun i j hj h0=>?_,?_,fun i d j hd hj=>?_,fun j hj h0=>?_,fun j hj h1=>?_,fun j hj=>?_,fun j hj=>?_,fun j hj=>?_⟩
 ·rw[hl2];rcases eB.1 hj with rfl|hj;exact hk;exact h.mem j hj
 ·rw[hl2]at hj
  by_cases hkj:k=j
  ·subst hkj;rw[hatk,hc2.1];exact⟨fun _=>gU,fun _=>rfl⟩
  ·rw[hst' j hkj,h.going j hj];exact⟨fun e=>iO _ e,fun e=>by rcases eB.1 e with e|e;exact absurd e.symm hkj;exact e⟩
 ·cases i with
  |zero=>
   simp at hj;subst hj;rw[hatk,hc2.2.1];show some t.now=ch[0]?;exact h.now.symm
  |succ i=>
   have hj':ch[i]?=some j:=by simpa using hj
   have hkj:k≠j:=fun e=>by subst e;exact hkch (jB hj')
   rw[hup' j hkj];show _=ch[i+1]?;exact h.chain i j hj'
 ·cases i with
  |zero=>
   have h0':ch[0]?=none:=by simpa using h0
   rw[h.now]at h0';cases h0'
  |succ i=>
   exact h.root i j (by simpa using hj) (by simpa using h0)
 ·rw[hg,jV,hnow2,hatk,hc2.2.2.1,hc2.2.2.2];exact htop
 ·cases i with
  |zero=>
   simp at hd;subst hd;have hj':ch[0]?=some j:=by simpa using hj
   rw[h.now]at hj';simp at hj';subst hj';rw[hg,hb',hatn];exact hs
  |succ i=>
   have hd':ch[i]?=some d:=by simpa using hd
   have hj':ch[i+1]?=some j:=by simpa using hj
   have hkj:k≠j:=fun e=>by subst e;exact hkch (jB hj')
   have hnj:t.now≠j:=fun e=>by
    subst e;have:=y8 h.nodup h.now hj';omega
   rw[hg,hb',hother j hkj hnj];exact h.wait i d j hd' hj'
 ·rw[hl2]at hj
  by_cases hkj:k=j
  ·subst hkj;rw[hatk,hc2.1]at h0;omega
  ·rw[hst' j hkj]at h0;have hnj:t.now≠j:=fun e=>by subst e;rw[←jV]at h0;omega
   rw[hg,hother j hkj hnj];exact h.fresh j hj h0
 ·rw[hl2]at hj
  by_cases hkj:k=j
  ·subst hkj;rw[hatk,hc2.1]at h1;omega
  ·rw[hst' j hkj]at h1;have hnj:t.now≠j:=fun e=>by subst e;rw[←jV]at h1;omega
   rw[hg,hother j hkj hnj];exact h.held j hj h1
 ·rw[hl2]at hj;rw[hco]
  split
  ·rename_i e;subst e
   rw[hc2.2.2.1,hc2.2.2.2];exact⟨hwl,(h.lens _ hj).2⟩
  ·split
   ·exact hlen
   ·exact h.lens j hj
 ·rw[hl2]at hj;rw[hb'];exact h.kinds j hj
 ·rw[hl2]at hj
  by_cases hkj:k=j
  ·subst hkj;rw[hatk,hc2.1];omega
  ·rw[hst' j hkj];exact h.bR j hj
theorem qK{t:Tk}{c:Co}{k:Nat}(hk:k<t.cs.length):co {t with cs:=t.cs ++[c]} k=co t k:=by
 unfold co;simp only[Jd,rF hk]
theorem yA{t:Tk}{c:Co}:co {t with cs:=t.cs ++[c]} t.cs.length=c:=by
 unfold co;simp
theorem yJ{t:Tk}{c:Co}:cR {t with cs:=t.cs ++[c]}=cR t ++[bot c.fr]:=by unfold cR;simp
theorem Ok.more(h:Ok M T t ch){c:Co}(hf:t.cs.length≤30)(hst:c.st=0)(hs:iA M T (cR t ++[bot c.fr]) c.fr c.ws [])(hl:c.ws.length≤400∧c.fr.length≤40)(hb:bot c.fr<M.aL.length∧(bD M (bot c.fr)).kind=3):Ok M T {t with cs:=t.cs ++[c]} ch:=by
 have hlen:({t with cs:=t.cs ++[c]}:Tk).cs.length=t.cs.length+1:=by simp
 have hnow:=h.iV;have hcase:∀{k},k<t.cs.length+1→k<t.cs.length∨k=t.cs.length:=fun{k} hk=>by omega
 have hmk:∀{i k:Nat},ch[i]?=some k→k<t.cs.length:=fun h'=>h.mem _ (jB h')
 refine⟨h.now,by rw[hlen];omega,h.nodup,fun k hk=>by rw[hlen];have:=h.mem k hk;omega,fun k hk=>?_,fun i k hk=>?_,h.root,?_,fun i d k hd hk=>?_,fun k hk h0=>?_,fun k hk h1=>?_,fun k hk=>?_,fun k hk=>?_,fun k hk=>?_⟩
 ·rw[hlen]at hk;rcases hcase hk with hk|rfl
  ·rw[qK hk];exact h.going k hk
  ·rw[yA,hst];exact⟨fun e=>by omega,fun e=>by have:=h.mem _ e;omega⟩
 ·rw[qK (hmk hk)];exact h.chain i k hk
 ·rw[yJ,jV,qK hnow];exact h.top.grow
 ·rw[yJ,qK (hmk hk),qK (hmk hd)];exact(h.wait i d k hd hk).grow
 ·rw[hlen]at hk;rcases hcase hk with hk|rfl
  ·rw[qK hk]at h0⊢;rw[yJ];exact(h.fresh k hk h0).grow
  ·rw[yA,yJ];exact hs
 ·rw[hlen]at hk;rcases hcase hk with hk|rfl
  ·rw[qK hk]at h1⊢;rw[yJ];exact(h.held k hk h1).grow
  ·rw[yA]at h1;omega
 ·rw[hlen]at hk;rcases hcase hk with hk|rfl
  ·rw[qK hk];exact h.lens k hk
  ·rw[yA];exact hl
 ·rw[hlen]at hk;rcases hcase hk with hk|rfl
  ·rw[qK hk];exact h.kinds k hk
  ·rw[yA];refine⟨hb.1,?_⟩;rw[if_neg (by omega)];exact hb.2
 ·rw[hlen]at hk;rcases hcase hk with hk|rfl
  ·rw[qK hk];exact h.bR k hk
  ·rw[yA,hst];omega
end
section
variable{M:aG}{T:Nat→Int→Option Shape}{t:Tk}{ch:List Nat}{fs0:List Fr}{ws0:List Int}{q p:Nat}{st:List Int}{hh:List Bool}{loc op:List Int}{i:aY}{st':List Int}{h':List Bool}
variable{ν:Type}{V:Env ν}{K:ν→Prop}(hC:dF M T)(hV:mP V M K)(hok:Ok M T t ch)(a:At M T t fs0 ws0 q p st hh loc op)(hr:AO M T q p i st hh st' h'){s:ν}(hK:K s)
include hok a
theorem alone(hk:(bD M q).kind≠2):fs0=[]∧ws0=[]:=by
 rcases a.under with h|⟨h,h2⟩
 ·exact h
 ·exact absurd h2 hk
theorem HD(hk:(bD M q).kind≠2):bot (cur t).fr=q:=by
 obtain⟨rfl,rfl⟩:=alone hok a hk;rw[a.fr];rfl
theorem M9{f:Fr}{ws:List Int}(h:ws.length≤400):(b6 (cur t) fs0 f ws).ws.length≤400∧(b6 (cur t) fs0 f ws).fr.length≤40:=by
 have:=(hok.lens _ hok.iV).2;rw[←jV,a.fr]at this;refine⟨h,?_⟩;show(fs0 ++[f]).length≤40;simpa using this
theorem M8{pc:Nat}{ws:List Int}:bot (b6 (cur t) fs0 ⟨q,pc,ws0.length⟩ ws).fr=bot (cur t).fr:=by
 rw[a.fr];exact HL _ _ _ rfl
include hC hV hr hK
theorem aAq(ho:i.op=25):mU M T K (exec V M i (eR (p+1) t,s)):=by
 have hn:=hok.iV;rw[a.pc];have hwl:=tR hok a;unfold exec
 (repeat rw[if_neg (by omega)]);rw[if_pos ho]
 have hup:=hok.chain 0 t.now hok.now;rw[←jV]at hup;have hb0:=hok.kinds _ hn;rw[←jV]at hb0
 cases hr.gN with
 |end_ h1 hi hk2=>
  have hbot:=HD hok a hk2;have hbt:= @M8 M T t ch fs0 ws0 q p _ _ loc op hok a (p+1) (ws0 ++(loc ++op));have hln:=M9 hok a (f:=⟨q,p+1,ws0.length⟩) (ws:=ws0 ++(loc ++op)) (by simp;omega);unfold qM;simp only[mY hn,set_set];have e1:(b6 (cur t) fs0 ⟨q,p+1,ws0.length⟩ (ws0 ++(loc ++op))).up=ch[1]?:=hup;rw[e1]
  cases hj:ch[1]? with
  |none=>exact⟨.inr (.inl rfl),hV.tell _ _ hK⟩
  |some j=>
   have hne:=hok.BW hj;have hjl:j<t.cs.length:=hok.mem _ (jB hj);have hn0:t.now≠0:=fun e=>by
    have hx:∀n m:Nat,ch.length=n→ch[m]?=some 0→m+1=n∨m+1<n:=fun n m hl hm=>by have:=(tT.1 hm).1;omega
    obtain⟨m,hm1⟩:∃m,ch.length=m+1:=⟨ch.length-1,by have:=(tT.1 hj).1;omega⟩;have hlast:∃k,ch[m]?=some k:=⟨_,Je (by omega)⟩;obtain⟨k,hk⟩:=hlast;have hz:=hok.root m k hk (tV (by omega));subst hz;have:=hok.now;rw[e]at this;have:=y8 hok.nodup this hk;have:=(tT.1 hj).1;omega
   rw[if_neg hn0]at hb0;have hpl:=(yK (vL hC hb0.1)).2.2 hb0.2;simp only;unfold push;have hcur:cur {setCur t {b6 (cur t) fs0 ⟨q,p+1,ws0.length⟩ (ws0 ++(loc ++op))with st:=3,up:=none}with now:=j}=co t j:=by
    show co (dM t t.now _) j=co t j;rw[pR hn,if_neg hne]
   simp only[hcur]
   split
   ·exact tN hV hK
   ·rename_i h4
    have hl4:=(hok.lens j hjl).1;refine⟨.inr (.inr ⟨ch.tail,?_⟩),hK⟩;exact hok.back hj (c:={b6 (cur t) fs0 ⟨q,p+1,ws0.length⟩ (ws0 ++(loc ++op))with st:=3,up:=none}) (.inl rfl) hbt hln (fun h=>by cases h) (aEM hpl.1) (by omega)
 |_=>exfalso;omega
theorem aAy(ho:i.op=31):mU M T K (exec V M i (eR (p+1) t,s)):=by
 have hn:=hok.iV;rw[a.pc];have hwl:=tR hok a;have hon:=on hok a hr (by omega) (by omega) (by omega);unfold exec
 (repeat rw[if_neg (by omega)]);rw[if_pos ho]
 have hup:=hok.chain 0 t.now hok.now;rw[←jV]at hup;have hb0:=hok.kinds _ hn;rw[←jV]at hb0
 cases hr.gN with
 |yield s1 h1 hi hk3=>
  have hk2:(bD M q).kind≠2:=by omega
  have hbot:=HD hok a hk2;obtain⟨hf0,hw0⟩:=alone hok a hk2;have hn0:t.now≠0:=fun e=>by rw[hbot,if_pos e,hk3]at hb0;omega
  obtain⟨op1,v,e1,g1,g2⟩:∃op1 v,op=op1 ++[v]∧eI (cR t) s1 op1∧fR (cR t) (bD M q).result v:=by
   obtain⟨x,y,e1,g1,g2⟩:=a.op.split;obtain⟨v,rfl,hv⟩:=g2.qZ;exact⟨x,v,e1,g1,hv⟩
  obtain⟨hl,hd⟩:=qW hC hok a hr ⟨q,p+1,ws0.length⟩ e1;obtain⟨j,hj⟩:∃j,ch[1]?=some j:=by
   cases hj:ch[1]? with
   |none=>exact absurd (hok.root 0 t.now hok.now hj) hn0
   |some j=>exact⟨j,rfl⟩
  have hne:=hok.BW hj;have hjl:j<t.cs.length:=hok.mem _ (jB hj);have hbt:= @M8 M T t ch fs0 ws0 q p _ _ loc op hok a (p+1) (ws0 ++(loc ++op1));have hlen1:(ws0 ++(loc ++op1)).length≤400:=by rw[e1]at hwl;simp at hwl⊢;omega
  have hln:=M9 hok a (f:=⟨q,p+1,ws0.length⟩) (ws:=ws0 ++(loc ++op1)) hlen1;unfold xO;simp only[hl,hd,mY hn,set_set];have e2:(b6 (cur t) fs0 ⟨q,p+1,ws0.length⟩ (ws0 ++(loc ++op1))).up.getD 0=j:=by
   show(cur t).up.getD 0=j;rw[hup,hj];rfl
  rw[e2];unfold push;have hcur:cur {setCur t {b6 (cur t) fs0 ⟨q,p+1,ws0.length⟩ (ws0 ++(loc ++op1))with st:=1,up:=none}with now:=j}=co t j:=by
   show co (dM t t.now _) j=co t j;rw[pR hn,if_neg hne]
  simp only[hcur]
  split
  ·exact tN hV hK
  ·rename_i h4
   have hl4:=(hok.lens j hjl).1;refine⟨.inr (.inr ⟨ch.tail,?_⟩),hK⟩;refine hok.back hj (c:={b6 (cur t) fs0 ⟨q,p+1,ws0.length⟩ (ws0 ++(loc ++op1))with st:=1,up:=none}) (.inr rfl) hbt hln (fun _=>?_) (by rw[hbot];exact g2) (by omega);show iA M T (cR t) (fs0 ++[⟨q,p+1,ws0.length⟩]) (ws0 ++(loc ++op1)) [(bD M (bot (b6 (cur t) fs0 ⟨q,p+1,ws0.length⟩ (ws0 ++(loc ++op1))).fr)).aS];rw[hbt,hbot];obtain⟨h2,t1,t2⟩:=hon;exact a.under.CO ⟨a.hq,s1,h2,loc,op1,t1,rfl,a.loc.le t2,g1⟩
 |_=>exfalso;omega
theorem aAu(ho:i.op=30):mU M T K (exec V M i (eR (p+1) t,s)):=by
 have hn:=hok.iV;rw[a.pc];have hwl:=tR hok a;have hon:=on hok a hr (by omega) (by omega) (by omega);unfold exec
 (repeat rw[if_neg (by omega)]);rw[if_pos ho]
 cases hr.gN with
 |resume s1 h1 g hi hg=>
  obtain⟨op1,y,e1,g1,g2⟩:=a.op.split;obtain⟨x,y,rfl,hx,hy⟩:=g2.xM;obtain⟨l1,d1⟩:=qW hC hok a hr ⟨q,p+1,ws0.length⟩ (op1:=op1 ++[x]) (v:=y) (by rw[e1];simp);have hw2:(b6 (cur t) fs0 ⟨q,p+1,ws0.length⟩ (ws0 ++(loc ++(op1 ++[x])))).ws=(ws0 ++(loc ++op1)) ++[x]:=by
   show ws0 ++(loc ++(op1 ++[x]))=_;simp
  have l2:=EH hn hw2;have d2:=drop_set hn hw2 (n:=1) rfl;have hg0:10≤10+g:=by
   unfold handle at hg;rw[JX,JV]at hg;exact hg.1
  obtain⟨k,rfl,hk,hgk,hk0⟩:=hx.2.2 hg0;rw[yI]at hk;rw[aB8 t hk]at hgk;have hgt:g.toNat=bot (co t k).fr:=by omega
  unfold tI;simp only[l1,d1,l2,d2,Jj,aF4];obtain⟨c1,ec⟩:∃c1,c1=b6 (cur t) fs0 ⟨q,p+1,ws0.length⟩ (ws0 ++(loc ++op1)):=⟨_,rfl⟩;have ec':({b6 (cur t) fs0 ⟨q,p+1,ws0.length⟩ (ws0 ++(loc ++(op1 ++[(k:Int)])))with ws:=ws0 ++(loc ++op1)}:Co)=c1:=by rw[ec];rfl
  rw[ec'];have hlen1:(ws0 ++(loc ++op1)).length≤400:=by rw[e1]at hwl;simp at hwl⊢;omega
  have hln:=M9 hok a (f:=⟨q,p+1,ws0.length⟩) (ws:=ws0 ++(loc ++op1)) hlen1;rw[←ec]at hln;have hbt:= @M8 M T t ch fs0 ws0 q p _ _ loc op hok a (p+1) (ws0 ++(loc ++op1));rw[←ec]at hbt;have hc1:c1.st=(cur t).st∧c1.up=(cur t).up:=by rw[ec];exact⟨rfl,rfl⟩
  have hin:t.now∈ch:=jB hok.now;have hst2:(cur t).st=2:=(hok.going _ hn).2 hin;have hck:((setCur t c1).cs.getD k default).st=(co t k).st:=by
   show(co (dM t t.now c1) k).st=_;rw[pR hn]
   split
   ·rename_i e;subst e;exact hc1.1
   ·rfl
  split
  ·exact tN hV hK
  split
  ·exact tN hV hK
  ·rename_i h3 h2'
   rw[hck]at h3 h2';have hs3:=hok.bR k hk;have hk01:(co t k).st=0∨(co t k).st=1:=by omega
   have hknow:t.now≠k:=fun e=>by subst e;rw[←jV]at hk01;omega
   have hcok:(setCur t c1).cs.getD k default=co t k:=by
    show co (dM t t.now c1) k=_;rw[pR hn,if_neg hknow]
   rw[hcok];have hsw:iA M T (cR t) c1.fr c1.ws [(bD M (bot (co t k).fr)).result]:=by
    obtain⟨h2,t1,t2⟩:=hon;rw[ec];refine a.under.CO ⟨a.hq,s1,h2,loc,op1,?_,rfl,a.loc.le t2,g1⟩;rw[←hgt];exact t1
   split
   ·rename_i h0
    refine⟨.inr (.inr ⟨k::ch,?_⟩),hK⟩;exact hok.RQ hk hk01 hc1.1 hc1.2 hbt hln hsw (ws:=(co t k).ws) (hok.fresh k hk h0) (hok.lens k hk).1
   ·rename_i h0
    have h1':(co t k).st=1:=by omega
    have hheld:=hok.held k hk h1';unfold push;have hk':k<(setCur t c1).cs.length:=by rw[nG];exact hk
    have hcur:cur {dM (setCur t c1) k {co t k with st:=2,up:=some t.now}with now:=k}={co t k with st:=2,up:=some t.now}:=by
     show co (dM (setCur t c1) k _) k=_;rw[pR hk',if_pos rfl]
    simp only[hcur]
    split
    ·exact tN hV hK
    ·rename_i h4
     have hl4:=(hok.lens k hk).1;have hset:setCur {dM (setCur t c1) k {co t k with st:=2,up:=some t.now}with now:=k} {co t k with st:=2,up:=some t.now,ws:=(co t k).ws ++[y]}={dM (setCur t c1) k {co t k with st:=2,up:=some t.now,ws:=(co t k).ws ++[y]}with now:=k}:=by
      unfold setCur dM;simp[List.set_set]
     refine⟨.inr (.inr ⟨k::ch,?_⟩),hK⟩;have hgo:=hok.RQ hk hk01 hc1.1 hc1.2 hbt hln hsw (ws:=(co t k).ws ++[y]) (hheld.I5 (by rw[←hgt];exact hy)) (by simp;omega);rw[←hset]at hgo;exact hgo
 |_=>exfalso;omega
theorem aAo(ho:i.op=32):mU M T K (exec V M i (eR (p+1) t,s)):=by
 have hn:=hok.iV;rw[a.pc];have hpu:=fun{op1 s1 ty v}=>tH hV hok a hr (by omega) (by omega) (by omega) (op1:=op1) (s1:=s1) (ty:=ty) (v:=v)
 unfold exec
 (repeat rw[if_neg (by omega)]);rw[if_pos ho]
 cases hr.gN with
 |alive s1 h1 g hi hg=>
  obtain⟨op1,y,e1,g1,g2⟩:=a.op.split;obtain⟨x,rfl,hx⟩:=g2.qZ;obtain⟨l1,d1⟩:=qW hC hok a hr ⟨q,p+1,ws0.length⟩ e1;unfold wG;simp only[l1,d1];exact hpu rfl g1 fR.bool a.loc hK (by rw[e1];simp)
 |_=>exfalso;omega
theorem aAw(ho:i.op=29):mU M T K (exec V M i (eR (p+1) t,s)):=by
 have hn:=hok.iV;rw[a.pc];have hwl:=tR hok a;have hon:=on hok a hr (by omega) (by omega) (by omega);obtain⟨k0,k1,k2⟩:=unit_eq (hr.ok.start ho);have hk:i.a.toNat<M.aL.length:=by omega
 have hkk:(bD M i.a.toNat).kind=3:=k2;have hhf:=yK (vL hC hk);unfold exec
 (repeat rw[if_neg (by omega)]);rw[if_pos ho]
 cases hr.gN with
 |start s1 h1 hi=>
  obtain⟨op1,ar,e1,g1,g2⟩:=a.op.split;have harl:ar.length=(bD M i.a.toNat).params.toNat:=by
   have:=g2.len;rw[←this];show((bD M i.a.toNat).locals.take (bD M i.a.toNat).params.toNat).length=_;simp;omega
  have hws:(b6 (cur t) fs0 ⟨q,p+1,ws0.length⟩ (ws0 ++(loc ++op))).ws=(ws0 ++(loc ++op1)) ++ar:=by
   show ws0 ++(loc ++op)=_;rw[e1];simp
  have hd:=drop_set hn hws harl;unfold r0;simp only[hd,mY hn];have hdr:(b6 (cur t) fs0 ⟨q,p+1,ws0.length⟩ (ws0 ++(loc ++op))).ws.drop ((b6 (cur t) fs0 ⟨q,p+1,ws0.length⟩ (ws0 ++(loc ++op))).ws.length-(bD M i.a.toNat).params.toNat)=ar:=by
   rw[hws,←harl,Jl,Nat.add_sub_cancel];exact List.drop_left
  rw[hdr]
  split
  ·exact tN hV hK
  ·rename_i h30
   rw[nG]at h30;obtain⟨b,hb⟩:∃b,b=begin M i.a.toNat ar:=⟨_,rfl⟩;have hbot:bot b.fr=i.a.toNat:=by rw[hb];rfl
   have hbw:b.ws.length=(bD M i.a.toNat).locals.length:=by rw[hb];simp[begin]
   have hb64:∀v∈b.ws,bG v:=fun v hv=>by
    rw[hb]at hv;simp only[begin,fD,nN]at hv;obtain⟨j, -,rfl⟩:=hv;rw[Jd]
    cases hx:ar[j]? with
    |none=>simp[bG]
    |some w=>exact g2.iJ w (jB hx)
   have hbj:∀j,j<(bD M i.a.toNat).params.toNat→b.ws.getD j 0=ar.getD j 0:=fun j hj=>by
    rw[hb];simp only[begin];rw[Jd,JU,List.getElem?_range (by omega)];rfl
   have hmore:=hok.more (c:=b) (by omega) (by rw[hb];rfl) (by
    rw[hbot];have:=MY hC (gs:=cR t ++[i.a.toNat]) hk g2.grow hbw hbj hb64;have hfr:b.fr=[⟨i.a.toNat,0,0⟩]:=by rw[hb];rfl
    rw[hfr];exact .one this) ⟨by omega,by rw[hb];simp[begin]⟩ (by rw[hbot];exact⟨hk,hkk⟩)
   rw[←hb];have hcs:(setCur t ({b6 (cur t) fs0 ⟨q,p+1,ws0.length⟩ (ws0 ++(loc ++op))with ws:=ws0 ++(loc ++op1)}:Co)).cs.length=t.cs.length:=nG _ _;obtain⟨t1,et⟩:∃t1:Tk,t1={t with cs:=t.cs ++[b]}:=⟨_,rfl⟩;rw[←et]at hmore;have hn1:t1.now<t1.cs.length:=hmore.iV;have hcur1:cur t1=cur t:=by rw[et];exact qK hn
   have hgs1:cR t1=cR t ++[i.a.toNat]:=by rw[et,yJ,hbot]
   have hst1:({setCur t ({b6 (cur t) fs0 ⟨q,p+1,ws0.length⟩ (ws0 ++(loc ++op))with ws:=ws0 ++(loc ++op1)}:Co)with cs:=(setCur t ({b6 (cur t) fs0 ⟨q,p+1,ws0.length⟩ (ws0 ++(loc ++op))with ws:=ws0 ++(loc ++op1)}:Co)).cs ++[b]}:Tk)=setCur t1 (b6 (cur t1) fs0 ⟨q,p+1,ws0.length⟩ (ws0 ++(loc ++op1))):=by
    rw[hcur1,et];unfold setCur dM;simp only[Tk.mk.injEq,and_true,true_and];rw[List.set_append_left _ _ hn];rfl
   rw[hst1,hcs];have a1:At M T t1 fs0 ws0 q p (s1 ++List.take (M.aL.getD i.a.toNat default).params.toNat (M.aL.getD i.a.toNat default).locals) hh loc op:=⟨by rw[hcur1];exact a.fr,by rw[hcur1];exact a.ws,a.hq,a.hT,by rw[hgs1];exact a.loc.grow,by rw[hgs1];exact a.op.grow,by
    rw[hgs1];rcases a.under with u|⟨u1,u2⟩
    ·exact .inl u
    ·exact .inr ⟨u1.grow,u2⟩⟩
   refine tH hV hmore a1 hr (by omega) (by omega) (by omega) rfl (by rw[hgs1];exact g1.grow) ?_ (by rw[hgs1];exact a.loc.grow) (hV.tell _ _ hK) (by rw[e1];simp);refine⟨by unfold bG;omega,fun h=>by omega,fun _=>⟨t.cs.length,rfl,by rw[hgs1];simp[yI],?_,by omega⟩⟩;rw[hgs1,Jd,xR (by rw[yI];exact cG _),yI];simp;omega
 |_=>exfalso;omega
end
section
variable{M:aG}{T:Nat→Int→Option Shape}{ν:Type}{V:Env ν}{K:ν→Prop}(hC:dF M T)(hV:mP V M K)
include hC hV
theorem II{t:Tk}{ch:List Nat}(hok:Ok M T t ch){s:ν}(hK:K s)(hw:((aV M t).op=26→V.full s (aV M t).a.toNat=false)∧((aV M t).op=27→V.empty s (aV M t).a.toNat=false)):
  mU M T K (exec V M (aV M t) (eR ((fK (cur t)).pc+1) t,s)):=by
 obtain⟨fs0,ws0,q,p,st,hh,loc,op,a⟩:=hok.at_;obtain⟨st',h',hr⟩:=a.here hC;have e:(fK (cur t)).pc=p:=by rw[a.top]
 rw[e];have ho:=hr.ok.op
 by_cases h1:(aV M t).op=1∨(aV M t).op=2∨(aV M t).op=3
 ·exact aAt hC hV hok a hr hK h1
 by_cases h2:(aV M t).op=4∨(aV M t).op=5∨(aV M t).op=6∨(aV M t).op=7∨(aV M t).op=22∨(aV M t).op=26∨(aV M t).op=28
 ·exact aAs hC hV hok a hr hK h2 hw.1
 by_cases h3:8≤(aV M t).op∧(aV M t).op≤20
 ·exact aAx hC hV hok a hr hK h3
 by_cases h4:(aV M t).op=21∨(aV M t).op=27
 ·exact aAr hC hV hok a hr hK h4 hw.2
 by_cases h5:(aV M t).op=23
 ·exact aAp hC hV hok a hr hK h5
 by_cases h6:(aV M t).op=24
 ·exact aAv hC hV hok a hr hK h6
 by_cases h7:(aV M t).op=25
 ·exact aAq hC hV hok a hr hK h7
 by_cases h8:(aV M t).op=29
 ·exact aAw hC hV hok a hr hK h8
 by_cases h9:(aV M t).op=30
 ·exact aAu hC hV hok a hr hK h9
 by_cases h10:(aV M t).op=31
 ·exact aAy hC hV hok a hr hK h10
 have h11:(aV M t).op=32:=by omega
 exact aAo hC hV hok a hr hK h11
def Good(M:aG)(T:Nat→Int→Option Shape)(K:ν→Prop)(r:Tk×ν):Prop:=(r.1.st=5∨r.1.st=4∨(r.1.st≤3∧∃ch,Ok M T r.1 ch))∧K r.2
omit hC hV in
theorem Ok.st{t:Tk}{ch:List Nat}(h:Ok M T t ch)(n b:Int):Ok M T {t with st:=n,bx:=b} ch:=⟨h.now,h.dY,h.nodup,h.mem,h.going,h.chain,h.root,h.top,h.wait,h.fresh,h.held,h.lens,h.kinds,h.bR⟩
omit hC hV in
theorem uQ{r:Tk×ν}(h:Good M T K r):Good M T K (look V M r):=by
 unfold look
 by_cases h3:r.1.st≤3
 ·rw[if_pos h3];obtain⟨h1,h2⟩:=h;have hok:∃ch,Ok M T r.1 ch:=by
   rcases h1 with h|h|h
   ·omega
   ·omega
   ·exact h.2
  obtain⟨ch,hok⟩:=hok;unfold waits
  split
  ·exact⟨.inr (.inr ⟨by simp,ch,hok.st _ _⟩),h2⟩
  split
  ·exact⟨.inr (.inr ⟨by simp,ch,hok.st _ _⟩),h2⟩
  ·exact⟨.inr (.inr ⟨by simp,ch,hok.st _ _⟩),h2⟩
 ·rw[if_neg h3];exact h
theorem UO(v:Int)(s:Tk×ν):(push V v s).1.st=s.1.st∨(push V v s).1.st=5:=by
 unfold push
 split
 ·unfold dS;split
  ·exact .inl rfl
  ·exact .inr rfl
 ·exact .inl rfl
theorem aGr(n:Int)(s:Tk×ν):(dS V n s).1.st=s.1.st∨(dS V n s).1.st=5:=by
 unfold dS;split
 ·exact .inl rfl
 ·exact .inr rfl
theorem UL:∀(n:Nat) (s:Tk×ν),(eV V n s).1.st=s.1.st∨(eV V n s).1.st=5
 |0,s=> .inl rfl
 |n+1,s=>by
  unfold eV;rcases UL n (push V 0 s)with h|h
  ·rw[h];exact UO hC hV 0 s
  ·exact .inr h
def rL(n:Int)(r:Tk×ν):Prop:=r.1.st=n∨r.1.st=5∨r.1.st=4
omit hC hV in
theorem rL.ite{n:Int}{c:Prop} [Decidable c]{a b:Tk×ν}(h1:rL n a)(h2:rL n b):rL n (if c then a else b):=by split<;>assumption
theorem QG(i:aY)(s:Tk×ν):rL s.1.st (exec V M i s):=by
 have hp:∀v (r:Tk×ν),r.1.st=s.1.st→rL s.1.st (push V v r):=fun v r e=>by
  rcases UO hC hV v r with h|h
  ·exact .inl (h.trans e)
  ·exact .inr (.inl h)
 have ht:∀v (r:Tk×ν),r.1.st=s.1.st→rL s.1.st (dS V v r):=fun v r e=>by
  rcases aGr hC hV v r with h|h
  ·exact .inl (h.trans e)
  ·exact .inr (.inl h)
 have hn:∀n (r:Tk×ν),r.1.st=s.1.st→rL s.1.st (eV V n r):=fun n r e=>by
  rcases UL hC hV n r with h|h
  ·exact .inl (h.trans e)
  ·exact .inr (.inl h)
 have he:rL s.1.st (qM V s):=by
  unfold qM
  cases(cur s.1).up with
  |none=>exact .inr (.inr rfl)
  |some j=>exact hp _ _ rfl
 unfold exec rN ret r0 tI xO wG;dsimp only
 repeat' (first|exact he|exact hp _ _ rfl|exact ht _ _ rfl|exact hn _ _ rfl|refine rL.ite ?_ ?_|exact .inl rfl|(refine .inl ?_;show(if _ then _ else _:Tk).st=_;split<;>rfl))
theorem F3{r:Tk×ν}(h:Good M T K r):Good M T K (step V M r).2:=by
 unfold step;have hl:=uQ (V:=V) h;generalize hL:look V M r=r1 at *;simp only
 split
 ·exact hl
 ·rename_i hst
  have hst1:r1.1.st=1:=nM hst;obtain⟨h1,hK⟩:=hl;have hok:∃ch,Ok M T r1.1 ch:=by
   rcases h1 with h|h|h
   ·omega
   ·omega
   ·exact h.2
  obtain⟨ch,hok⟩:=hok;have hw:((aV M r1.1).op=26→V.full r1.2 (aV M r1.1).a.toNat=false)∧((aV M r1.1).op=27→V.empty r1.2 (aV M r1.1).a.toNat=false):=by
   have hr3:r.1.st≤3:=by
    refine Int.not_lt.1 fun hlt=>?_
    unfold look at hL;rw[if_neg (by omega)]at hL;subst hL;omega
   unfold look at hL;rw[if_pos hr3]at hL;have hi:aV M r1.1=aV M r.1∧r1.2=r.2:=by
    rw[←hL];unfold waits
    split
    ·exact⟨rfl,rfl⟩
    split
    ·exact⟨rfl,rfl⟩
    ·exact⟨rfl,rfl⟩
   rw[hi.1,hi.2];unfold waits at hL
   by_cases c1:(aV M r.1).op=26∧V.full r.2 (aV M r.1).a.toNat=true
   ·rw[if_pos c1]at hL;subst hL;simp at hst1
   ·rw[if_neg c1]at hL
    by_cases c2:(aV M r.1).op=27∧V.empty r.2 (aV M r.1).a.toNat=true
    ·rw[if_pos c2]at hL;subst hL;simp at hst1
    ·refine⟨fun ho=>?_,fun ho=>?_⟩
     ·cases hx:V.full r.2 (aV M r.1).a.toNat with
      |false=>rfl
      |true=>exact absurd ⟨ho,hx⟩ c1
     ·cases hx:V.empty r.2 (aV M r.1).a.toNat with
      |false=>rfl
      |true=>exact absurd ⟨ho,hx⟩ c2
  have hres:=II hC hV hok hK hw;have hest:=QG hC hV (aV M r1.1) (eR ((fK (cur r1.1)).pc+1) r1.1,r1.2);refine uQ (V:=V) ⟨?_,hres.2⟩;rcases hres.1 with h|h|h
  ·exact .inl h
  ·exact .inr (.inl h)
  ·rcases hest with e|e|e
   ·refine .inr (.inr ⟨?_,h⟩);rw[e];show r1.1.st≤3;omega
   ·exact .inl e
   ·exact .inr (.inl e)
end
theorem E7{M:aG}{T:Nat→Int→Option Shape}(hC:dF M T){u:Nat}(hu:u<M.aL.length)(hk:(bD M u).kind=4):Ok M T (new M u) [0]:=by
 have hh:=yK (vL hC hu);have hp:(bD M u).params.toNat=0:=by
  have h:=vL hC hu;unfold Ver.head at h
  by_cases e1:(bD M u).kind≠2∧(bD M u).kind≠3∧(bD M u).kind≠4
  ·rw[if_pos e1]at h;cases h
  rw[if_neg e1]at h
  by_cases e2:200<(bD M u).locals.length∨(bD M u).params<0∨6<(bD M u).params∨((bD M u).locals.length:Int)<(bD M u).params∨((bD M u).kind=4∧0<(bD M u).params)
  ·rw[if_pos e2]at h;cases h
  omega
 have hco:∀k,k<(new M u).cs.length→k=0:=fun k h=>by simp[new]at h;omega
 have hco0:co (new M u) 0={begin M u []with st:=2}:=rfl;have hst:iA M T (cR (new M u)) [⟨u,0,0⟩] (begin M u []).ws []:=by
  refine .one (MY hC hu (a:=[]) ?_ (by simp[begin]) (fun j hj=>by omega) (fun v hv=>?_))
  ·rw[hp];exact .nil
  ·simp only[begin,fD]at hv;obtain⟨j, -,rfl⟩:=hv;simp[bG]
 refine⟨rfl,by simp[new],by simp,fun k hk=>by simp at hk;subst hk;simp[new],fun k hk'=>?_,fun i k h=>?_,fun i k h _=>?_,hst,fun i d k h1 h2=>?_,fun k hk' h0=>?_,fun k hk' h0=>?_,fun k hk'=>?_,fun k hk'=>?_,fun k hk'=>?_⟩
 ·obtain rfl:=hco k hk';rw[hco0];simp
 ·cases i with
  |zero=>simp at h;subst h;rfl
  |succ i=>simp at h
 ·cases i with
  |zero=>simp at h;exact h.symm
  |succ i=>simp at h
 ·simp at h2
 ·obtain rfl:=hco k hk';rw[hco0]at h0;cases h0
 ·obtain rfl:=hco k hk';rw[hco0]at h0;cases h0
 ·obtain rfl:=hco k hk';rw[hco0];refine⟨?_,by simp[begin]⟩;show(begin M u []).ws.length≤400;simp[begin];omega
 ·obtain rfl:=hco k hk';rw[hco0];exact⟨hu,by rw[if_pos rfl];exact hk⟩
 ·obtain rfl:=hco k hk';rw[hco0];simp
end Vm
end Go.Proofs.YtofckcabpchcmaaGreatDoor
