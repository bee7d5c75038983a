/- A right module's task keeps what is known: each instruction. Plain Lean. -/
import Derived.Test.YtofckcabpchcmaaGreatDoorM18
set_option linter.unusedVariables false
set_option linter.unusedSimpArgs false
set_option linter.unusedSectionVars false
set_option maxRecDepth 100000
namespace Go.Proofs.YtofckcabpchcmaaGreatDoor
namespace Vm
open ImgM Ver Opt
structure gN(M:aL)(T:Nat→Int→Option Shape):Prop where
 form:yW M
 mE:∀q,q<M.aJ.length→∀i∈(bL M q).code,In64 i.n∧In64 i.a
 cert:∀q,q<M.aJ.length→Cert M (bL M q) (T q)
 lens:∀q p s,q<M.aJ.length→T q p=some s→s.2.length=(bL M q).locals.length
structure o9{ν:Type}(V:Env ν)(M:aL)(K:ν→Prop):Prop where
 take:∀s b,K s→b<M.boxes.length→V.empty s b=false→K (V.take s b).2∧In64 (V.take s b).1∧((M.boxes.getD b default).1=2→(V.take s b).1=0∨(V.take s b).1=1)
 put:∀s b v,K s→b<M.boxes.length→V.full s b=false→In64 v→((M.boxes.getD b default).1=2→v=0∨v=1)→K (V.put s b v)
 tell:∀s e,K s→K (V.tell s e)
structure At(M:aL)(T:Nat→Int→Option Shape)(t:Tk)(fs0:List Fr)(ws0:List Int)(q p:Nat)(st:List Int)(h:List Bool)(loc op:List Int):Prop where
 fr:(cur t).fr=fs0 ++[⟨q,p,ws0.length⟩]
 ws:(cur t).ws=ws0 ++(loc ++op)
 hq:q<M.aJ.length
 hT:T q (p:Int)=some (st,h)
 loc:Loc (dJ t) (bL M q).locals h loc
 op:eZ (dJ t) st op
 under:EG M T (dJ t) q fs0 ws0
section
variable{M:aL}{T:Nat→Int→Option Shape}{t:Tk}{ch:List Nat}
theorem Ok.at_(h:Ok M T t ch):∃fs0 ws0 q p st hh loc op,At M T t fs0 ws0 q p st hh loc op:=by
 obtain⟨fs0,ws0,q,p,seg,e1,e2,⟨hq,st,hh,loc,op,g1,g2,g3,g4⟩,hu⟩:=h.top.view;rw[eS]at g1;exact⟨fs0,ws0,q,p,st,hh,loc,op,e1,by rw[e2,g2],hq,g1,g3,g4,hu⟩
variable{fs0:List Fr}{ws0:List Int}{q p:Nat}{st:List Int}{hh:List Bool}{loc op:List Int}
theorem NA{α:Type} [Inhabited α](l:List α)(a:α):(l ++[a]).getD ((l ++[a]).length-1) default=a:=aW
theorem G0{α:Type}(l:List α)(a b:α):(l ++[a]).set ((l ++[a]).length-1) b=l ++[b]:=aW
theorem XA(l:List Int)(a:Int):(l ++[a]).getD ((l ++[a]).length-1) 0=a:=aW
theorem aGX{α:Type}(l a:List α):(l ++a).take ((l ++a).length-a.length)=l:=aW
theorem At.top(a:At M T t fs0 ws0 q p st hh loc op):gY (cur t)=⟨q,p,ws0.length⟩:=by
 unfold gY;rw[a.fr];exact NA _ _
def cH(c:Co)(fs0:List Fr)(f:Fr)(ws:List Int):Co:=⟨c.st,c.up,fs0 ++[f],ws⟩
theorem At.pc(a:At M T t fs0 ws0 q p st hh loc op)(n:Nat):gX n t=setCur t (cH (cur t) fs0 ⟨q,n,ws0.length⟩ (ws0 ++(loc ++op))):=by
 unfold gX A2 cH;rw[a.top,a.fr,G0,a.ws]
theorem FT{c:Co}{w:List Int}{v:Int}(hn:t.now<t.cs.length)(h:c.ws=w ++[v]):last (setCur t c)=v:=by
 unfold last;rw[nY hn,h];exact XA _ _
theorem drop_set{c:Co}{w a:List Int}{n:Nat}(hn:t.now<t.cs.length)(h:c.ws=w ++a)(ha:a.length=n):drop n (setCur t c)=setCur t {c with ws:=w}:=by
 unfold drop;rw[nY hn,set_set,h,←ha,aGX]
theorem Ok.next(h:Ok M T t ch)(a:At M T t fs0 ws0 q p st hh loc op){p':Nat}{st':List Int}{h1 h2:List Bool}{loc' op':List Int}(hT:T q (p':Int)=some (st',h2))(hle:Le h2 h1)(hl:Loc (dJ t) (bL M q).locals h1 loc')(ht:eZ (dJ t) st' op'){ws:List Int}(hws:ws=ws0 ++(loc' ++op'))(hlen:ws.length≤400):
  Ok M T (setCur t (cH (cur t) fs0 ⟨q,p',ws0.length⟩ ws)) ch:=by
 subst hws;have hlens:=h.lens _ h.jS;rw[←kP]at hlens;refine h.put rfl rfl ?_ ?_ ⟨hlen,?_⟩
 ·show bot (fs0 ++[_])=bot (cur t).fr;rw[a.fr];exact H9 _ _ _ rfl
 ·exact a.under.DM ⟨a.hq,st',h2,loc',op',by rw[eS];exact hT,rfl,hl.le hle,ht⟩
 ·have:=hlens.2;rw[a.fr]at this;show(fs0 ++[_]).length≤40;simpa using this
def nU{ν:Type}(M:aL)(T:Nat→Int→Option Shape)(K:ν→Prop)(r:Tk×ν):Prop:=(r.1.st=5∨r.1.st=4∨∃ch',Ok M T r.1 ch')∧K r.2
variable{ν:Type}{V:Env ν}{K:ν→Prop}(hV:o9 V M K)
include hV
theorem uR{n:Int}{s:Tk×ν}(hK:K s.2):nU M T K (e9 V n s):=by
 unfold e9
 split
 ·rename_i h;exact⟨.inl h,hK⟩
 ·exact⟨.inl rfl,hV.tell _ _ hK⟩
theorem VT{c:Co}{v:Int}{s:ν}(hn:t.now<t.cs.length)(hK:K s)(h:c.ws.length+1≤400→∃ch',Ok M T (setCur t {c with ws:=c.ws ++[v]}) ch')(hl:c.ws.length≤400):nU M T K (push V v (setCur t c,s)):=by
 unfold push;simp only[nY hn,set_set]
 split
 ·exact uR hV hK
 ·exact⟨.inr (.inr (h aA)),hK⟩
end
structure BO(M:aL)(T:Nat→Int→Option Shape)(q p:Nat)(i:aT)(st:List Int)(hh:List Bool)(st':List Int)(h':List Bool):Prop where
 lt:p<(bL M q).code.length
 ins:(bL M q).code.getD p default=i
 iD:iR M (bL M q) i st hh st' h'
 next:∀x∈lH i (p:Int),0≤x∧∃h2,T q x=some (st',h2)∧Le h2 h'
 ok:uX M (bL M q) i
 mE:In64 i.n∧In64 i.a
 inst:eV M (bL M q) i=0
theorem At.here{M:aL}{T:Nat→Int→Option Shape}(hC:gN M T){t:Tk}{fs0:List Fr}{ws0:List Int}{q p:Nat}{st:List Int}{hh:List Bool}{loc op:List Int}(a:At M T t fs0 ws0 q p st hh loc op):∃st' h',BO M T q p (cO M t) st hh st' h':=by
 have hc:=hC.cert q a.hq;have hr:=hc.kG _ _ a.hT;have hf:=hc.fits _ _ a.hT;have hi:cO M t=(bL M q).code.getD p default:=by unfold cO;rw[a.top]
 have hlt:p<(bL M q).code.length:=aA;have hm:(bL M q).code.getD p default∈(bL M q).code:=Opt.aDM hlt;have hu:bL M q∈M.aJ:=by
  unfold bL;rw[Jd,Je a.hq];exact hZ _
 have hio:=CJ ((hC.form.aJ _ hu).2 _ hm);have e:Ver.ins (bL M q) (p:Int)=(bL M q).code.getD p default:=rfl;refine⟨(cS M (bL M q) (cO M t) (st,hh)).stack,(cS M (bL M q) (cO M t) (st,hh)).has,hlt,hi.symm,?_,fun x hx=>?_,by rw[hi];exact hio,by rw[hi];exact hC.mE q a.hq _ hm,by rw[hi];exact(hC.form.aJ _ hu).2 _ hm⟩
 ·refine aGE ?_ ?_
  ·rw[hi];exact hio.op
  ·rw[hi,←e];exact hf.ok
 ·have hn:=hf.next x (by rw[e,←hi];exact hx);rw[e,←hi]at hn;obtain⟨h2,g1,g2⟩:=hn;exact⟨(hc.kG _ _ g1).1,h2,g1,g2⟩
section
variable{M:aL}{T:Nat→Int→Option Shape}{t:Tk}{ch:List Nat}{fs0:List Fr}{ws0:List Int}{q p:Nat}{st:List Int}{hh:List Bool}{loc op:List Int}{i:aT}{st':List Int}{h':List Bool}
variable{ν:Type}{V:Env ν}{K:ν→Prop}(hV:o9 V M K)(hok:Ok M T t ch)(a:At M T t fs0 ws0 q p st hh loc op)(hr:BO M T q p i st hh st' h')
include hok a
theorem uV:ws0.length+(loc.length+op.length)≤400:=by
 have:=(hok.lens _ hok.jS).1;rw[←kP,a.ws]at this;simpa using this
include hr
theorem on(h1:i.op≠21)(h3:i.op≠24)(h4:i.op≠25):∃h2,T q ((p+1:Nat):Int)=some (st',h2)∧Le h2 h':=by
 have:=hr.next ((p:Int)+1) (by
  unfold lH;rw[if_neg h1]
  split
  ·simp
  ·rw[if_neg aA];simp)
 exact this.2
theorem goes(h1:i.op≠21)(h3:i.op≠24)(h4:i.op≠25){loc' op' ws:List Int}(hl:Loc (dJ t) (bL M q).locals h' loc')(ht:eZ (dJ t) st' op')(hws:ws=ws0 ++(loc' ++op'))(hlen:ws.length≤400):
  Ok M T (setCur t (cH (cur t) fs0 ⟨q,p+1,ws0.length⟩ ws)) ch:=by
 obtain⟨h2,g1,g2⟩:=on hok a hr h1 h3 h4;exact hok.next a g1 g2 hl ht hws hlen
include hV
theorem uI(h1:i.op≠21)(h3:i.op≠24)(h4:i.op≠25){op1:List Int}{s1:List Int}{ty v:Int}(he:st'=s1 ++[ty])(ht:eZ (dJ t) s1 op1)(hv:fY (dJ t) ty v)(hl:Loc (dJ t) (bL M q).locals h' loc){s:ν}(hK:K s)(hlen:op1.length≤op.length):
  nU M T K (push V v (setCur t (cH (cur t) fs0 ⟨q,p+1,ws0.length⟩ (ws0 ++(loc ++op1))),s)):=by
 have hw:=uV hok a;refine VT hV hok.jS hK (fun hlt=>⟨ch,?_⟩) (by show(ws0 ++(loc ++op1)).length≤400;simp;omega);refine goes hok a hr h1 h3 h4 hl (he▸ht.app (eZ.one hv)) ?_ (by simpa using hlt);show ws0 ++(loc ++op1) ++[v]=_;simp
end
theorem OP(a:Int):In64 (IntKind.i64.wrap a):=by
 unfold In64 IntKind.wrap;simp[IntKind.bits,IntKind.signed];omega
theorem ZV(b:Bool):In64 (yes b):=by cases b<;>(unfold In64 yes;omega)
theorem aH9{op a b:Int}(ha:In64 a)(hb:In64 b)(h0:op=11∨op=12→b≠0):In64 (m4 op a b):=by
 unfold m4
 repeat' split
 all_goals first|exact OP _|exact ZV _|exact ha|(unfold In64;omega)|skip
 ·have h1:=Int.natAbs_tmod a b;have h2:a.natAbs % b.natAbs<b.natAbs:=Nat.mod_lt _ (by have:=h0 aA;omega);unfold In64 at *;omega
 all_goals (unfold bits;exact OP _)
theorem DP(c:Co)(fs0:List Fr)(f:Fr)(ws:List Int):gY (cH c fs0 f ws)=f:=NA _ _
theorem aHb{gs:List Nat}{o x y:Int}(ho:8≤o∧o≤20)(hx:In64 x)(hy:In64 y)(h0:o=11∨o=12→y≠0)(hb:18<o→(x=0∨x=1)∧(y=0∨y=1)):fY gs (if 12<o then 2 else 1) (m4 o x y):=by
 have h64:In64 (m4 o x y):=aH9 hx hy h0
 split
 ·exact fY.N2 (aHa (by assumption) ho.2 hb)
 ·exact fY.num h64
theorem aCE{a b c:List Int}{k:Nat}(h:k<b.length):(a ++(b ++c)).getD (a.length+k) 0=b.getD k 0:=by
 rw[Jd,rD aA,Nat.add_sub_cancel_left,tD h,Jd]
theorem aGL{a b c:List Int}{k:Nat}{v:Int}(h:k<b.length):(a ++(b ++c)).set (a.length+k) v=a ++(b.set k v ++c):=by
 rw[List.set_append_right _ _ aA,Nat.add_sub_cancel_left,List.set_append_left _ _ h]
section
variable{M:aL}{T:Nat→Int→Option Shape}{t:Tk}{ch:List Nat}{fs0:List Fr}{ws0:List Int}{q p:Nat}{st:List Int}{hh:List Bool}{loc op:List Int}{i:aT}{st':List Int}{h':List Bool}
variable{ν:Type}{V:Env ν}{K:ν→Prop}(hC:gN M T)(hV:o9 V M K)(hok:Ok M T t ch)(a:At M T t fs0 ws0 q p st hh loc op)(hr:BO M T q p i st hh st' h'){s:ν}(hK:K s)
include hC hV hok a hr hK
theorem aBb(ho:i.op=1∨i.op=2∨i.op=3):nU M T K (exec V M i (gX (p+1) t,s)):=by
 have hn:=hok.jS;rw[a.pc];have hlen:=a.loc.len;unfold exec;simp only[nY hn,DP];rcases ho with ho|ho|ho
 ·rw[if_pos ho]
  cases hr.iD with
  |const _ _ hi=>
   refine uI hV hok a hr aA aA aA rfl a.op ?_ a.loc hK (bS _);rw[ho];exact fY.num hr.mE.1
  |_=>exfalso;omega
 ·rw[if_neg aA,if_pos ho];have htr:=aH8 hr.inst ho
  cases hr.iD with
  |const _ _ hi=>
   refine uI hV hok a hr aA aA aA rfl a.op ?_ a.loc hK (bS _);rw[ho];exact fY.N2 htr
  |_=>exfalso;omega
 ·rw[if_neg aA,if_neg aA,if_pos ho];have hlo:=hr.ok.loc (.inl ho)
  cases hr.iD with
  |load _ _ hi hx=>
   refine uI hV hok a hr aA aA aA rfl a.op ?_ a.loc hK (bS _);show fY _ _ ((ws0 ++(loc ++op)).getD (ws0.length+i.a.toNat) 0);rw[aCE aA];exact a.loc.ok _ aA hx
  |_=>exfalso;omega
omit hV hK in
theorem rS(f:Fr){op1:List Int}{v:Int}(e:op=op1 ++[v]):last (setCur t (cH (cur t) fs0 f (ws0 ++(loc ++op))))=v∧drop 1 (setCur t (cH (cur t) fs0 f (ws0 ++(loc ++op))))=setCur t (cH (cur t) fs0 f (ws0 ++(loc ++op1))):=by
 have hw:(cH (cur t) fs0 f (ws0 ++(loc ++op))).ws=(ws0 ++(loc ++op1)) ++[v]:=by
  show ws0 ++(loc ++op)=_;rw[e];simp
 exact⟨FT hok.jS hw,drop_set hok.jS hw rfl⟩
theorem aBa(ho:i.op=4∨i.op=5∨i.op=6∨i.op=7∨i.op=22∨i.op=26∨i.op=28)(hw:i.op=26→V.full s i.a.toNat=false):nU M T K (exec V M i (gX (p+1) t,s)):=by
 have hn:=hok.jS;rw[a.pc];have hlen:=a.loc.len;have hwl:=uV hok a;have key:∀{s1:List Int} {ty:Int},st=s1 ++[ty]→∃op1 v,op=op1 ++[v]∧eZ (dJ t) s1 op1∧fY (dJ t) ty v:=fun{s1 ty} e=>by
  have ht:=a.op;rw[e]at ht;obtain⟨x,y,e1,g1,g2⟩:=ht.split;obtain⟨v,rfl,hv⟩:=g2.rX;exact⟨x,v,e1,g1,hv⟩
 have hio:=hr.ok;unfold exec;rcases ho with ho|ho|ho|ho|ho|ho|ho
 ·rw[if_neg aA,if_neg aA,if_neg aA,if_pos ho];have hlo:=hio.loc (.inr ho);have hgo:=fun{loc' op' ws}=>goes hok a hr (loc':=loc') (op':=op') (ws:=ws) aA aA aA
  cases hr.iD with
  |store s1 h1 hi=>
   obtain⟨op1,v,e1,g1,g2⟩:=key rfl;obtain⟨hl,hd⟩:=rS hC hok a hr ⟨q,p+1,ws0.length⟩ e1;simp only[hl,hd,nY hn,set_set,DP];refine⟨.inr (.inr ⟨ch,?_⟩),hK⟩;refine hgo (loc':=loc.set i.a.toNat v) (op':=op1) (a.loc.put aA g2) g1 (aGL aA) ?_;show((ws0 ++(loc ++op1)).set _ v).length≤400;rw[e1]at hwl;simp at hwl⊢;omega
  |_=>exfalso;omega
 ·(repeat rw[if_neg aA]);rw[if_pos ho]
  have hgo:=fun{loc' op' ws}=>goes hok a hr (loc':=loc') (op':=op') (ws:=ws) aA aA aA
  cases hr.iD with
  |drop s1 h1 ty hi=>
   obtain⟨op1,v,e1,g1,g2⟩:=key rfl;obtain⟨hl,hd⟩:=rS hC hok a hr ⟨q,p+1,ws0.length⟩ e1;simp only[hd];rw[e1]at hwl;exact⟨.inr (.inr ⟨ch,hgo a.loc g1 rfl (by simp at hwl⊢;omega)⟩),hK⟩
  |_=>exfalso;omega
 ·(repeat rw[if_neg aA]);rw[if_pos ho]
  have hpu:=fun{op1 s1 ty v}=>uI hV hok a hr aA aA aA (op1:=op1) (s1:=s1) (ty:=ty) (v:=v)
  cases hr.iD with
  |neg s1 h1 hi=>
   obtain⟨op1,v,e1,g1,g2⟩:=key rfl;obtain⟨hl,hd⟩:=rS hC hok a hr ⟨q,p+1,ws0.length⟩ e1;simp only[hl,hd];exact hpu rfl g1 (fY.num (OP _)) a.loc hK (by rw[e1];simp)
  |_=>exfalso;omega
 ·(repeat rw[if_neg aA]);rw[if_pos ho]
  have hpu:=fun{op1 s1 ty v}=>uI hV hok a hr aA aA aA (op1:=op1) (s1:=s1) (ty:=ty) (v:=v)
  cases hr.iD with
  |not s1 h1 hi=>
   obtain⟨op1,v,e1,g1,g2⟩:=key rfl;obtain⟨hl,hd⟩:=rS hC hok a hr ⟨q,p+1,ws0.length⟩ e1;simp only[hl,hd];refine hpu rfl g1 (fY.N2 ?_) a.loc hK (by rw[e1];simp);rcases g2.2.1 rfl with h|h<;>rw[h]<;>decide
  |_=>exfalso;omega
 ·(repeat rw[if_neg aA]);rw[if_pos ho]
  have hgo:=fun{loc' op' ws}=>goes hok a hr (loc':=loc') (op':=op') (ws:=ws) aA aA aA
  have hnx:=hr.next i.a (by unfold lH;rw[if_neg aA,if_pos ho];simp)
  cases hr.iD with
  |fJ s1 h1 hi=>
   obtain⟨op1,v,e1,g1,g2⟩:=key rfl;obtain⟨hl,hd⟩:=rS hC hok a hr ⟨q,p+1,ws0.length⟩ e1;simp only[hl,hd];rw[e1]at hwl
   split
   ·obtain⟨h0,h2,k1,k2⟩:=hnx;refine⟨.inr (.inr ⟨ch,?_⟩),hK⟩;have e:gX i.a.toNat (setCur t (cH (cur t) fs0 ⟨q,p+1,ws0.length⟩ (ws0 ++(loc ++op1))))=setCur t (cH (cur t) fs0 ⟨q,i.a.toNat,ws0.length⟩ (ws0 ++(loc ++op1))):=by
     unfold gX;rw[nY hn,set_set,DP];unfold A2 cH;rw[G0]
    rw[e];have hc:((i.a.toNat:Nat):Int)=i.a:=aA;exact hok.next a (by rw[hc];exact k1) k2 a.loc g1 rfl (by simp at hwl⊢;omega)
   ·exact⟨.inr (.inr ⟨ch,hgo a.loc g1 rfl (by simp at hwl⊢;omega)⟩),hK⟩
  |_=>exfalso;omega
 ·(repeat rw[if_neg aA]);rw[if_pos ho]
  have hgo:=fun{loc' op' ws}=>goes hok a hr (loc':=loc') (op':=op') (ws:=ws) aA aA aA
  have hb:=hio.box (.inl ho)
  cases hr.iD with
  |send s1 h1 hi=>
   obtain⟨op1,v,e1,g1,g2⟩:=key rfl;obtain⟨hl,hd⟩:=rS hC hok a hr ⟨q,p+1,ws0.length⟩ e1;simp only[hl,hd];rw[e1]at hwl;exact⟨.inr (.inr ⟨ch,hgo a.loc g1 rfl (by simp at hwl⊢;omega)⟩),hV.tell _ _ (hV.put s i.a.toNat v hK aA (hw ho) g2.1 g2.2.1)⟩
  |_=>exfalso;omega
 ·(repeat rw[if_neg aA]);rw[if_pos ho]
  have hgo:=fun{loc' op' ws}=>goes hok a hr (loc':=loc') (op':=op') (ws:=ws) aA aA aA
  cases hr.iD with
  |out s1 h1 ty hi=>
   obtain⟨op1,v,e1,g1,g2⟩:=key rfl;obtain⟨hl,hd⟩:=rS hC hok a hr ⟨q,p+1,ws0.length⟩ e1;simp only[hl,hd];rw[e1]at hwl;have h:=hgo a.loc g1 rfl (by simp at hwl⊢;omega);exact⟨.inr (.inr ⟨ch,⟨h.now,h.eL,h.nodup,h.mem,h.going,h.chain,h.root,h.top,h.wait,h.fresh,h.held,h.lens,h.kinds,h.bV⟩⟩),hV.tell _ _ hK⟩
  |_=>exfalso;omega
theorem aBg(ho:8≤i.op∧i.op≤20):nU M T K (exec V M i (gX (p+1) t,s)):=by
 have hn:=hok.jS;rw[a.pc];have hpu:=fun{op1 s1 ty v}=>uI hV hok a hr aA aA aA (op1:=op1) (s1:=s1) (ty:=ty) (v:=v)
 have key:∃s1 t1 t2 t3,st=s1 ++[t1,t2]∧st'=s1 ++[t3]∧h'=hh∧(18<i.op→t1=2∧t2=2)∧t3=if 12<i.op then 2 else 1:=by
  cases hr.iD with
  |arith s1 h hi=>exact⟨s1,1,1,1,rfl,rfl,rfl,aA,by rw[if_neg aA]⟩
  |eq s1 h ty hi ht=>exact⟨s1,ty,ty,2,rfl,rfl,rfl,aA,by rw[if_pos aA]⟩
  |cmp s1 h hi=>exact⟨s1,1,1,2,rfl,rfl,rfl,aA,by rw[if_pos aA]⟩
  |LD s1 h hi=>exact⟨s1,2,2,2,rfl,rfl,rfl,fun _=>⟨rfl,rfl⟩,by rw[if_pos aA]⟩
  |_=>exfalso;omega
 obtain⟨s1,t1,t2,t3,k1,k2,k3,k4,k5⟩:=key;have ht:=a.op;rw[k1]at ht;obtain⟨op1,y,e1,g1,g2⟩:=ht.split;obtain⟨x,y,rfl,hx,hy⟩:=g2.yQ;obtain⟨l1,d1⟩:=rS hC hok a hr ⟨q,p+1,ws0.length⟩ (op1:=op1 ++[x]) (v:=y) (by rw[e1];simp);have hw2:(cH (cur t) fs0 ⟨q,p+1,ws0.length⟩ (ws0 ++(loc ++(op1 ++[x])))).ws=(ws0 ++(loc ++op1)) ++[x]:=by
  show ws0 ++(loc ++(op1 ++[x]))=_;simp
 have l2:=FT hn hw2;have d2:=drop_set hn hw2 (n:=1) rfl;unfold exec
 (repeat rw[if_neg aA]);rw[if_pos ho]
 simp only[l1,d1,l2,d2]
 split
 ·exact uR hV hK
 ·rename_i hz
  refine hpu (op1:=op1) (ty:=t3) k2 g1 ?_ (by rw[k3];exact a.loc) hK (by rw[e1];simp);rw[k5];exact aHb ho hx.1 hy.1 (fun h h0=>hz ⟨h,h0⟩) (fun h=>by
   obtain⟨q1,q2⟩:=k4 h;exact⟨hx.2.1 q1,hy.2.1 q2⟩)
theorem aB8(ho:i.op=21∨i.op=27)(hw:i.op=27→V.empty s i.a.toNat=false):nU M T K (exec V M i (gX (p+1) t,s)):=by
 have hn:=hok.jS;rw[a.pc];have hwl:=uV hok a;unfold exec;rcases ho with ho|ho
 ·(repeat rw[if_neg aA]);rw[if_pos ho]
  have hnx:=hr.next i.a (by unfold lH;rw[if_pos ho];simp)
  cases hr.iD with
  |jump s1 h1 hi=>
   obtain⟨h0,h2,k1,k2⟩:=hnx;refine⟨.inr (.inr ⟨ch,?_⟩),hK⟩;have e:gX i.a.toNat (setCur t (cH (cur t) fs0 ⟨q,p+1,ws0.length⟩ (ws0 ++(loc ++op))))=setCur t (cH (cur t) fs0 ⟨q,i.a.toNat,ws0.length⟩ (ws0 ++(loc ++op))):=by
    unfold gX;rw[nY hn,set_set,DP];unfold A2 cH;rw[G0]
   show Ok M T (gX _ _) ch;rw[e];have hc:((i.a.toNat:Nat):Int)=i.a:=aA;exact hok.next a (by rw[hc];exact k1) k2 a.loc a.op rfl (by simp;omega)
  |_=>exfalso;omega
 ·(repeat rw[if_neg aA]);rw[if_pos ho]
  have hb:=hr.ok.box (.inr ho);have htk:=hV.take s i.a.toNat hK aA (hw ho);have hbt:plain (M.boxes.getD i.a.toNat default).1=true:=by
   have hm:M.boxes.getD i.a.toNat default∈M.boxes:=by
    rw[Jd,Je aA];exact hZ _
   exact(hC.form.boxes _ hm).1
  have hbt':(M.boxes.getD i.a.toNat default).1<10:=by
   unfold plain at hbt;rw[xC,JV,JV]at hbt;omega
  have hpu:=fun{op1 s1 ty v}=>uI hV hok a hr aA aA aA (op1:=op1) (s1:=s1) (ty:=ty) (v:=v)
  cases hr.iD with
  |recv s1 h1 hi=>exact hpu rfl a.op ⟨htk.2.1,htk.2.2,fun h=>aA⟩ a.loc (hV.tell _ _ htk.1) (bS _)
  |_=>exfalso;omega
end
theorem zV{M:aL}{u:bM}(h:Ver.head M u=0):u.params.toNat≤u.locals.length∧u.locals.length≤200∧(u.kind=3→plain u.result=true∧plain u.aP=true):=by
 unfold Ver.head at h
 by_cases e1:u.kind≠2∧u.kind≠3∧u.kind≠4
 ·rw[if_pos e1]at h;cases h
 rw[if_neg e1]at h
 by_cases e2:200<u.locals.length∨u.params<0∨6<u.params∨(u.locals.length:Int)<u.params∨(u.kind=4∧0<u.params)
 ·rw[if_pos e2]at h;cases h
 rw[if_neg e2]at h
 by_cases e3:u.code.length<1∨4000<u.code.length
 ·rw[if_pos e3]at h;cases h
 rw[if_neg e3]at h
 by_cases e4:(u.kind≠4∧plain u.result=false)∨(u.kind=3∧plain u.aP=false)
 ·rw[if_pos e4]at h;cases h
 refine⟨aA,aA,fun hk=>⟨?_,?_⟩⟩
 ·cases hp:plain u.result with
  |true=>rfl
  |false=>exact absurd (.inl ⟨aA,hp⟩) e4
 ·cases hp:plain u.aP with
  |true=>rfl
  |false=>exact absurd (.inr ⟨hk,hp⟩) e4
theorem wJ{M:aL}{T:Nat→Int→Option Shape}(hC:gN M T){k:Nat}(hk:k<M.aJ.length):Ver.head M (bL M k)=0:=by
 have hu:bL M k∈M.aJ:=by
  unfold bL;rw[Jd,Je hk];exact hZ _
 exact(hC.form.aJ _ hu).1
theorem aEc{gs:List Nat}{t:Int}(h:plain t=true):fY gs t 0:=by
 unfold plain at h;rw[xC,JV,JV]at h;exact⟨by unfold In64;omega,fun _=> .inl rfl,fun h=>aA⟩
theorem aCL{u:bM}{j:Nat}(h:(Ver.gJ u).getD j false=true):j<u.params.toNat:=by
 unfold Ver.gJ at h;refine Nat.lt_of_not_le fun hle=>?_;rw[Jd,rD (by simp;omega)]at h;simp at h
 cases hx:(List.replicate (u.locals.length-u.params.toNat) false)[j-u.params.toNat]? with
 |none=>rw[hx]at h;cases h
 |some b=>
  rw[hx]at h;have:=List.eq_of_mem_replicate (kO hx);subst this
  cases h
theorem NH{M:aL}{T:Nat→Int→Option Shape}(hC:gN M T){gs:List Nat}{k:Nat}(hk:k<M.aJ.length){a:List Int}(ha:eZ gs ((bL M k).locals.take (bL M k).params.toNat) a){ws:List Int}(hw:ws.length=(bL M k).locals.length)(hp:∀j,j<(bL M k).params.toNat→ws.getD j 0=a.getD j 0)(h64:∀v∈ws,In64 v):cE M T gs k 0 ws []:=by
 obtain⟨h0,h1,h2⟩:=(hC.cert k hk).start;have hh:=zV (wJ hC hk);refine⟨hk,[],h0,ws,[],by simpa using h1,aW,⟨hw,fun j hj hx=>?_,h64⟩, .nil⟩;have hjp:=aCL (h2.2 j hx);rw[hp j hjp];have key:∀{ts xs:List Int},eZ gs ts xs→∀j,j<ts.length→fY gs (ts.getD j 0) (xs.getD j 0):=by
  intro ts xs h
  induction h with
  |nil=>intro j hj;simp at hj
  |cons g1 _ ih=>
   intro j hj
   cases j with
   |zero=>exact g1
   |succ j=>exact ih j (by simpa using hj)
 have:=key ha j (by simp;omega);rw[Jd,BW,if_pos hjp,←Jd]at this;exact this
theorem iT.KV{M:aL}{T:Nat→Int→Option Shape}{gs:List Nat}{fs:List Fr}{ws:List Int}{ty v:Int}(h:iT M T gs fs ws [ty])(hv:fY gs ty v):iT M T gs fs (ws ++[v]) []:=by
 obtain⟨fs0,ws0,q,p,seg,e1,e2,⟨hq,st,hh,loc,op,g1,g2,g3,g4⟩,hu⟩:=h.view;rw[e1,e2,g2];have e:ws0 ++(loc ++op) ++[v]=ws0 ++(loc ++(op ++[v])):=aW;rw[e];exact hu.DM ⟨hq,st ++[ty],hh,loc,op ++[v],by simpa using g1,rfl,g3,g4.app (eZ.one hv)⟩
section
variable{M:aL}{T:Nat→Int→Option Shape}{t:Tk}{ch:List Nat}{fs0:List Fr}{ws0:List Int}{q p:Nat}{st:List Int}{hh:List Bool}{loc op:List Int}{i:aT}{st':List Int}{h':List Bool}
variable{ν:Type}{V:Env ν}{K:ν→Prop}(hC:gN M T)(hV:o9 V M K)(hok:Ok M T t ch)(a:At M T t fs0 ws0 q p st hh loc op)(hr:BO M T q p i st hh st' h'){s:ν}(hK:K s)
theorem VL(hV:o9 V M K):∀(n:Nat) (r:Tk×ν),r.1.st=5→K r.2→(gB V n r).1.st=5∧K (gB V n r).2
 |0,r,h,hK=>⟨h,hK⟩
 |n+1,r,h,hK=>by
  unfold gB;have:(push V 0 r).1.st=5∧K (push V 0 r).2:=by
   unfold push
   split
   ·unfold e9;rw[if_pos h];exact⟨h,hK⟩
   ·exact⟨h,hK⟩
  exact VL hV n _ this.1 this.2
theorem VP(hV:o9 V M K){t:Tk}(hn:t.now<t.cs.length){s:ν}(hK:K s):∀(n:Nat) (c:Co),c.ws.length≤400→((gB V n (setCur t c,s)).1.st=5∧K (gB V n (setCur t c,s)).2)∨(c.ws.length+n≤400∧gB V n (setCur t c,s)=(setCur t {c with ws:=c.ws ++List.replicate n 0},s))
 |0,c,hl=> .inr ⟨hl,by unfold gB;simp⟩
 |n+1,c,hl=>by
  unfold gB
  by_cases h:c.ws.length=400
  ·left
   have e:push V 0 (setCur t c,s)=e9 V 4 (setCur t c,s):=by unfold push;simp only[nY hn];rw[if_pos h]
   rw[e];have ht:(e9 V 4 (setCur t c,s)).1.st=5∧K (e9 V 4 (setCur t c,s)).2:=by
    unfold e9
    split
    ·rename_i h5;exact⟨h5,hK⟩
    ·exact⟨rfl,hV.tell _ _ hK⟩
   exact VL hV n _ ht.1 ht.2
  ·have e:push V 0 (setCur t c,s)=(setCur t {c with ws:=c.ws ++[0]},s):=by
    unfold push;simp only[nY hn,set_set];rw[if_neg h]
   rw[e];rcases VP hV hn hK n {c with ws:=c.ws ++[0]} (by simp;omega)with g|⟨g1,g2⟩
   ·exact .inl g
   ·refine .inr ⟨by simp at g1;omega,?_⟩;rw[g2];congr 2;simp[List.replicate_succ]
include hC hV hok a hr hK
theorem aB6(ho:i.op=23):nU M T K (exec V M i (gX (p+1) t,s)):=by
 have hn:=hok.jS;rw[a.pc];have hwl:=uV hok a;obtain⟨k0,k1,k2⟩:=unit_eq (hr.ok.call ho);have hk:i.a.toNat<M.aJ.length:=aA;have hkk:(bL M i.a.toNat).kind=2:=k2;have hhf:=zV (wJ hC hk);have hon:=on hok a hr aA aA aA;have hlens:=(hok.lens _ hn).2;rw[←kP,a.fr]at hlens;unfold exec
 (repeat rw[if_neg aA]);rw[if_pos ho]
 cases hr.iD with
 |call s1 h1 hi=>
  obtain⟨op1,ar,e1,g1,g2⟩:=a.op.split;have harl:ar.length=(bL M i.a.toNat).params.toNat:=by
   have:=g2.len;rw[←this];show((bL M i.a.toNat).locals.take (bL M i.a.toNat).params.toNat).length=_;simp;omega
  unfold vF;simp only[nY hn,set_set]
  split
  ·exact uR hV hK
  ·rename_i h40
   have hfr:(cH (cur t) fs0 ⟨q,p+1,ws0.length⟩ (ws0 ++(loc ++op))).fr=fs0 ++[⟨q,p+1,ws0.length⟩]:=rfl;have hws:(cH (cur t) fs0 ⟨q,p+1,ws0.length⟩ (ws0 ++(loc ++op))).ws=(ws0 ++(loc ++op1)) ++ar:=by
    show ws0 ++(loc ++op)=_;rw[e1];simp
   have hbase:(cH (cur t) fs0 ⟨q,p+1,ws0.length⟩ (ws0 ++(loc ++op))).ws.length-(bL M i.a.toNat).params.toNat=(ws0 ++(loc ++op1)).length:=by rw[hws,Jl,harl];omega
   rw[hbase];have hlen:(ws0 ++(loc ++op)).length≤400:=by simp;omega
   rcases VP hV hn hK ((bL M i.a.toNat).locals.length-(bL M i.a.toNat).params.toNat) {cH (cur t) fs0 ⟨q,p+1,ws0.length⟩ (ws0 ++(loc ++op))with fr:=(fs0 ++[⟨q,p+1,ws0.length⟩]) ++[⟨i.a.toNat,0,(ws0 ++(loc ++op1)).length⟩]} hlen with g|⟨g3,g4⟩
   ·exact⟨.inl g.1,g.2⟩
   ·rw[show({cH (cur t) fs0 ⟨q,p+1,ws0.length⟩ (ws0 ++(loc ++op))with fr:=(cH (cur t) fs0 ⟨q,p+1,ws0.length⟩ (ws0 ++(loc ++op))).fr ++[⟨i.a.toNat,0,(ws0 ++(loc ++op1)).length⟩]}:Co)={cH (cur t) fs0 ⟨q,p+1,ws0.length⟩ (ws0 ++(loc ++op))with fr:=(fs0 ++[⟨q,p+1,ws0.length⟩]) ++[⟨i.a.toNat,0,(ws0 ++(loc ++op1)).length⟩]}from rfl,g4];refine⟨.inr (.inr ⟨ch,hok.put rfl rfl ?_ ?_ ⟨?_,?_⟩⟩),hK⟩
    ·show bot ((fs0 ++[_]) ++[_])=bot (cur t).fr;rw[QC _ _ aW,a.fr];exact H9 _ _ _ rfl
    ·have e2:({cH (cur t) fs0 ⟨q,p+1,ws0.length⟩ (ws0 ++(loc ++op))with fr:=(fs0 ++[⟨q,p+1,ws0.length⟩]) ++[⟨i.a.toNat,0,(ws0 ++(loc ++op1)).length⟩]}:Co).ws ++List.replicate ((bL M i.a.toNat).locals.length-(bL M i.a.toNat).params.toNat) 0=(ws0 ++(loc ++op1)) ++(ar ++List.replicate ((bL M i.a.toNat).locals.length-(bL M i.a.toNat).params.toNat) 0):=by
      show(cH (cur t) fs0 ⟨q,p+1,ws0.length⟩ (ws0 ++(loc ++op))).ws ++_=_;rw[hws];simp
     show iT M T (dJ t) ((fs0 ++[_]) ++[_]) (_ ++List.replicate _ 0) [];rw[e2];obtain⟨h2,t1,t2⟩:=hon;refine .more (a.under.DM ⟨a.hq,s1,h2,loc,op1,t1,rfl,a.loc.le t2,g1⟩) hkk (NH hC hk g2 (by simp[harl];omega) (fun j hj=>?_) (fun v hv=>?_))
     ·rw[Jd,tD aA,Jd]
     ·rcases dF.1 hv with hv|hv
      ·exact g2.mE v hv
      ·rw[List.eq_of_mem_replicate hv];unfold In64;omega
    ·show(_ ++List.replicate _ 0).length≤400;rw[Jl,List.length_replicate];exact g3
    ·show((fs0 ++[_]) ++[_]).length≤40;rw[hfr]at h40;simp at hlens h40⊢;omega
 |_=>exfalso;omega
theorem aBd(ho:i.op=24):nU M T K (exec V M i (gX (p+1) t,s)):=by
 have hn:=hok.jS;rw[a.pc];have hwl:=uV hok a;unfold exec
 (repeat rw[if_neg aA]);rw[if_pos ho]
 have hkd:=hok.kinds _ hn;rw[←kP,a.fr]at hkd;have hlens:=(hok.lens _ hn).2;rw[←kP,a.fr]at hlens
 cases hr.iD with
 |ret h1 hi hk2=>
  obtain⟨v,e1,hv⟩:=a.op.rX;rcases a.under with⟨u1,u2⟩|⟨u1,u2⟩
  ·subst u1;have hb:bot ([] ++[(⟨q,p,ws0.length⟩:Fr)])=q:=rfl;rw[hb,hk2]at hkd
   exfalso
   split at hkd<;>omega
  ·have hl:=FT (c:=cH (cur t) fs0 ⟨q,p+1,ws0.length⟩ (ws0 ++(loc ++op))) (w:=ws0 ++loc) (v:=v) hn (by show ws0 ++(loc ++op)=_;rw[e1];simp);unfold ret;simp only[hl,nY hn,set_set,DP];have hfs:(cH (cur t) fs0 ⟨q,p+1,ws0.length⟩ (ws0 ++(loc ++op))).fr.take ((cH (cur t) fs0 ⟨q,p+1,ws0.length⟩ (ws0 ++(loc ++op))).fr.length-1)=fs0:=by
    show(fs0 ++[_]).take ((fs0 ++[_]).length-1)=fs0;simp
   have hws:((cH (cur t) fs0 ⟨q,p+1,ws0.length⟩ (ws0 ++(loc ++op))).ws.take ((cH (cur t) fs0 ⟨q,p+1,ws0.length⟩ (ws0 ++(loc ++op))).ws.length-1)).take ws0.length=ws0:=by
    show((ws0 ++(loc ++op)).take ((ws0 ++(loc ++op)).length-1)).take ws0.length=ws0;rw[List.take_take,Nat.min_eq_left (by rw[e1];simp)];simp
   rw[hfs,hws];have hne:fs0≠[]:=fun h=>by
    subst h;obtain⟨f1,w1,q1,p1,sg,x1, -⟩:=u1.view;simp at x1
   refine VT hV hn hK (fun hlt=>⟨ch,hok.put rfl rfl ?_ (u1.KV hv) ⟨hlt' hlt,?_⟩⟩) ?_
   ·show bot fs0=bot (cur t).fr;rw[a.fr,QC _ _ hne]
   ·show fs0.length≤40;simp at hlens;omega
   ·show ws0.length≤400;omega
 |_=>exfalso;omega
where hlt' {ws:List Int} {v:Int} (h:ws.length+1≤400):(ws ++[v]).length≤400:=by simpa using h
end
section
variable{M:aL}{T:Nat→Int→Option Shape}{t:Tk}{ch:List Nat}{fs0:List Fr}{ws0:List Int}{q p:Nat}{st:List Int}{hh:List Bool}{loc op:List Int}{i:aT}{st':List Int}{h':List Bool}
theorem Ok.CV(h:Ok M T t ch){j:Nat}(hj:ch[1]?=some j):t.now≠j:=fun e=>by
 subst e;have:=AN h.nodup h.now hj;omega
theorem Ok.back(h:Ok M T t ch){j:Nat}(hj:ch[1]?=some j){c:Co}(hst:c.st=3∨c.st=1)(hb:bot c.fr=bot (cur t).fr)(hlen:c.ws.length≤400∧c.fr.length≤40)
  (hheld:c.st=1→iT M T (dJ t) c.fr c.ws [(bL M (bot c.fr)).aP]) {v:Int} (hv:fY (dJ t) (bL M (bot (cur t).fr)).result v) (hl:(co t j).ws.length+1≤400):
  Ok M T (setCur {setCur t c with now:=j} {co t j with ws:=(co t j).ws ++[v]}) ch.tail:=by
 have hn:=h.jS;have hne:=h.CV hj;have hjl:j<t.cs.length:=h.mem _ (kO hj);have hw:=h.wait 0 t.now j h.now hj;rw[←kP]at hw;have ht:∀i:Nat,ch.tail[i]?=ch[i+1]?:=fun i=>by rw[List.getElem?_tail]
 have hch:ch=t.now::ch.tail:=by
  cases ch with
  |nil=>have:=h.now;simp at this
  |cons x r=>have:=h.now;simp at this;simp[this]
 have hnd:=h.nodup;rw[hch,zB]at hnd;have hg1:dJ (setCur t c)=dJ t:=CI hn hb;obtain⟨t1,e1⟩:∃t1:Tk,t1={setCur t c with now:=j}:=⟨_,rfl⟩;have hl1:t1.cs.length=t.cs.length:=by rw[e1];exact oC t c
 have hn1:t1.now=j:=by rw[e1]
 have hgs1:dJ t1=dJ t:=by rw[e1];exact hg1
 have hco1:∀k,co t1 k=if t.now=k then c else co t k:=fun k=>by rw[e1];exact qK hn
 rw[←e1];obtain⟨c2,e2⟩:∃c2:Co,c2={co t j with ws:=(co t j).ws ++[v]}:=⟨_,rfl⟩;rw[←e2];have hbot2:bot c2.fr=bot (co t1 t1.now).fr:=by rw[hn1,hco1,if_neg hne,e2]
 have hn1l:t1.now<t1.cs.length:=by rw[hl1,hn1];exact hjl
 have hg2:dJ (setCur t1 c2)=dJ t:=by rw[←hgs1];exact CI hn1l hbot2
 have hl2:(setCur t1 c2).cs.length=t.cs.length:=by rw[oC,hl1]
 have hco:∀k,co (setCur t1 c2) k=if j=k then c2 else if t.now=k then c else co t k:=fun k=>by
  show co (fB t1 t1.now c2) k=_;rw[qK hn1l,hn1,hco1]
 have hnowc:(setCur t1 c2).now=j:=hn1;have hother:∀k,j≠k→t.now≠k→co (setCur t1 c2) k=co t k:=fun k a b=>by rw[hco,if_neg a,if_neg b]
 have hatj:co (setCur t1 c2) j=c2:=by rw[hco,if_pos rfl]
 have hatn:co (setCur t1 c2) t.now=c:=by rw[hco,if_neg (Ne.symm hne),if_pos rfl]
 have hc2:c2.st=(co t j).st∧c2.up=(co t j).up∧c2.fr=(co t j).fr:=by rw[e2];exact⟨rfl,rfl,rfl⟩
 have hmemj:j∈ch:=kO hj;have hstj:(co t j).st=2:=(h.going j hjl).2 hmemj;have hb':∀k,bot (co (setCur t1 c2) k).fr=bot (co t k).fr:=fun k=>by
  rw[hco]
  split
  ·rename_i e;subst e;rw[hc2.2.2]
  ·split
   ·rename_i e;subst e;exact hb
   ·rfl
 have htm:∀k,k∈ch.tail→k∈ch∧t.now≠k:=fun k hk=>⟨List.mem_of_mem_tail hk,fun e=>by subst e;exact hnd.1 hk⟩;refine⟨?_,by rw[hl2];exact h.eL,hnd.2,fun k hk=>by rw[hl2];exact h.mem k (htm k hk).1,fun k hk=>?_,fun i k hk=>?_,fun i k hk h0=>?_,?_,fun i d k hd hk=>?_,fun k hk h0=>?_,fun k hk h1=>?_,fun k hk=>?_,fun k hk=>?_,fun k hk=>?_⟩
 ·rw[ht,hnowc];exact hj
 ·rw[hl2]at hk
  by_cases hkj:j=k
  ·subst hkj;rw[hatj,hc2.1];exact⟨fun _=>by rw[hch]at hmemj;rcases cY.1 hmemj with e|e;exact absurd e.symm hne;exact e,fun _=>hstj⟩
  ·by_cases hkn:t.now=k
   ·subst hkn;rw[hatn];exact⟨fun e=>aA,fun e=>absurd e hnd.1⟩
   ·rw[hother k hkj hkn,h.going k hk];exact⟨fun e=>by rw[hch]at e;rcases cY.1 e with e|e;exact absurd e.symm hkn;exact e,fun e=>(htm k e).1⟩
 ·rw[ht]at hk;have hm:=htm k (by rw[←ht]at hk;exact kO hk);have hup:(co (setCur t1 c2) k).up=(co t k).up:=by
   by_cases hkj:j=k
   ·subst hkj;rw[hatj,hc2.2.1]
   ·rw[hother k hkj hm.2]
  rw[hup,ht];exact h.chain (i+1) k hk
 ·rw[ht]at hk h0;exact h.root (i+1) k hk h0
 ·rw[hg2,kP,hnowc,hatj,e2];exact hw.KV hv
 ·rw[ht]at hd hk;have hkj:j≠k:=fun e=>by
   subst e;have:=AN h.nodup hj hk;omega
  have hm:=htm k (by rw[←ht]at hk;exact kO hk);rw[hg2,hb',hother k hkj hm.2];exact h.wait (i+1) d k hd hk
 ·rw[hl2]at hk
  by_cases hkj:j=k
  ·subst hkj;rw[hatj,hc2.1]at h0;omega
  ·by_cases hkn:t.now=k
   ·subst hkn;rw[hatn]at h0;omega
   ·rw[hother k hkj hkn]at h0⊢;rw[hg2];exact h.fresh k hk h0
 ·rw[hl2]at hk
  by_cases hkj:j=k
  ·subst hkj;rw[hatj,hc2.1]at h1;omega
  ·by_cases hkn:t.now=k
   ·subst hkn;rw[hatn]at h1⊢;rw[hg2];exact hheld h1
   ·rw[hother k hkj hkn]at h1⊢;rw[hg2];exact h.held k hk h1
 ·rw[hl2]at hk;rw[hco]
  split
  ·rename_i e;subst e
   rw[e2];exact⟨by simpa using hl,(h.lens _ hk).2⟩
  ·split
   ·exact hlen
   ·exact h.lens k hk
 ·rw[hl2]at hk;rw[hb'];exact h.kinds k hk
 ·rw[hl2]at hk;rw[hco]
  split
  ·rw[hc2.1,hstj];omega
  ·split
   ·omega
   ·exact h.bV k hk
theorem Ok.S6(h:Ok M T t ch){k:Nat}(hk:k<t.cs.length)(hk2:(co t k).st=0∨(co t k).st=1){c:Co}(hst:c.st=(cur t).st)(hup:c.up=(cur t).up)(hb:bot c.fr=bot (cur t).fr)(hlen:c.ws.length≤400∧c.fr.length≤40)
  (hs:iT M T (dJ t) c.fr c.ws [(bL M (bot (co t k).fr)).result]) {ws:List Int} (htop:iT M T (dJ t) (co t k).fr ws []) (hwl:ws.length≤400):
  Ok M T {fB (setCur t c) k {co t k with st:=2,up:=some t.now,ws:=ws}with now:=k} (k::ch):=by
 have hn:=h.jS;have hin:t.now∈ch:=kO h.now;have hst2:(cur t).st=2:=(h.going _ hn).2 hin;have hknow:t.now≠k:=fun e=>by subst e;rw[←kP]at hk2;omega
 have hkch:k∉ch:=fun hm=>by have:=(h.going k hk).2 hm;omega
 obtain⟨c2,e2⟩:∃c2:Co,c2={co t k with st:=2,up:=some t.now,ws:=ws}:=⟨_,rfl⟩;rw[←e2];obtain⟨t2,et⟩:∃t2:Tk,t2={fB (setCur t c) k c2 with now:=k}:=⟨_,rfl⟩;rw[←et];have hk':k<(setCur t c).cs.length:=by rw[oC];exact hk
 have hl2:t2.cs.length=t.cs.length:=by rw[et];show(fB _ _ _).cs.length=_;rw[aGH,oC]
 have hco:∀j,co t2 j=if k=j then c2 else if t.now=j then c else co t j:=fun j=>by
  rw[et];show co (fB (setCur t c) k c2) j=_;rw[qK hk']
  split
  ·rfl
  ·exact qK hn
 have hb2:bot c2.fr=bot (co t k).fr:=by rw[e2]
 have hb':∀j,bot (co t2 j).fr=bot (co t j).fr:=fun j=>by
  rw[hco]
  split
  ·rename_i e;subst e;exact hb2
  ·split
   ·rename_i e;subst e;exact hb
   ·rfl
 have hg:dJ t2=dJ t:=by
  rw[et];show dJ (fB (setCur t c) k c2)=_;rw[CI hk' (by rw[hb2];show _=bot (co (fB t t.now c) k).fr;rw[qK hn,if_neg hknow])];exact CI hn hb
 have hatk:co t2 k=c2:=by rw[hco,if_pos rfl]
 have hatn:co t2 t.now=c:=by rw[hco,if_neg (Ne.symm hknow),if_pos rfl]
 have hother:∀j,k≠j→t.now≠j→co t2 j=co t j:=fun j a b=>by rw[hco,if_neg a,if_neg b]
 have hst':∀j,k≠j→(co t2 j).st=(co t j).st:=fun j a=>by
  rw[hco,if_neg a]
  split
  ·rename_i e;subst e;exact hst
  ·rfl
 have hup':∀j,k≠j→(co t2 j).up=(co t j).up:=fun j a=>by
  rw[hco,if_neg a]
  split
  ·rename_i e;subst e;exact hup
  ·rfl
 have hnow2:t2.now=k:=by rw[et]
 have hc2:c2.st=2∧c2.up=some t.now∧c2.ws=ws∧c2.fr=(co t k).fr:=by rw[e2];exact⟨rfl,rfl,rfl,rfl⟩
 refine⟨by rw[hnow2];rfl,by rw[hl2];exact h.eL,zB.2 ⟨hkch,h.nodup⟩,fun j hj=>?_,fun j hj=>?_,fun i j hj=>?_,fun i j hj h0=>?_,?_,fun i d j hd hj=>?_,fun j hj h0=>?_,fun j hj h1=>?_,fun j hj=>?_,fun j hj=>?_,fun j hj=>?_⟩
 ·rw[hl2];rcases cY.1 hj with rfl|hj;exact hk;exact h.mem j hj
 ·rw[hl2]at hj
  by_cases hkj:k=j
  ·subst hkj;rw[hatk,hc2.1];exact⟨fun _=>gF,fun _=>rfl⟩
  ·rw[hst' j hkj,h.going j hj];exact⟨fun e=>gZ _ e,fun e=>by rcases cY.1 e with e|e;exact absurd e.symm hkj;exact e⟩
 ·cases i with
  |zero=>
   simp at hj;subst hj;rw[hatk,hc2.2.1];show some t.now=ch[0]?;exact h.now.symm
  |succ i=>
   have hj':ch[i]?=some j:=by simpa using hj
   have hkj:k≠j:=fun e=>by subst e;exact hkch (kO hj')
   rw[hup' j hkj];show _=ch[i+1]?;exact h.chain i j hj'
 ·cases i with
  |zero=>
   have h0':ch[0]?=none:=by simpa using h0
   rw[h.now]at h0';cases h0'
  |succ i=>
   exact h.root i j (by simpa using hj) (by simpa using h0)
 ·rw[hg,kP,hnow2,hatk,hc2.2.2.1,hc2.2.2.2];exact htop
 ·cases i with
  |zero=>
   simp at hd;subst hd;have hj':ch[0]?=some j:=by simpa using hj
   rw[h.now]at hj';simp at hj';subst hj';rw[hg,hb',hatn];exact hs
  |succ i=>
   have hd':ch[i]?=some d:=by simpa using hd
   have hj':ch[i+1]?=some j:=by simpa using hj
   have hkj:k≠j:=fun e=>by subst e;exact hkch (kO hj')
   have hnj:t.now≠j:=fun e=>by
    subst e;have:=AN h.nodup h.now hj';omega
   rw[hg,hb',hother j hkj hnj];exact h.wait i d j hd' hj'
 ·rw[hl2]at hj
  by_cases hkj:k=j
  ·subst hkj;rw[hatk,hc2.1]at h0;omega
  ·rw[hst' j hkj]at h0;have hnj:t.now≠j:=fun e=>by subst e;rw[←kP]at h0;omega
   rw[hg,hother j hkj hnj];exact h.fresh j hj h0
 ·rw[hl2]at hj
  by_cases hkj:k=j
  ·subst hkj;rw[hatk,hc2.1]at h1;omega
  ·rw[hst' j hkj]at h1;have hnj:t.now≠j:=fun e=>by subst e;rw[←kP]at h1;omega
   rw[hg,hother j hkj hnj];exact h.held j hj h1
 ·rw[hl2]at hj;rw[hco]
  split
  ·rename_i e;subst e
   rw[hc2.2.2.1,hc2.2.2.2];exact⟨hwl,(h.lens _ hj).2⟩
  ·split
   ·exact hlen
   ·exact h.lens j hj
 ·rw[hl2]at hj;rw[hb'];exact h.kinds j hj
 ·rw[hl2]at hj
  by_cases hkj:k=j
  ·subst hkj;rw[hatk,hc2.1];omega
  ·rw[hst' j hkj];exact h.bV j hj
theorem rI{t:Tk}{c:Co}{k:Nat}(hk:k<t.cs.length):co {t with cs:=t.cs ++[c]} k=co t k:=by
 unfold co;simp only[Jd,tD hk]
theorem zM{t:Tk}{c:Co}:co {t with cs:=t.cs ++[c]} t.cs.length=c:=by
 unfold co;simp
theorem zU{t:Tk}{c:Co}:dJ {t with cs:=t.cs ++[c]}=dJ t ++[bot c.fr]:=by unfold dJ;simp
theorem Ok.more(h:Ok M T t ch){c:Co}(hf:t.cs.length≤30)(hst:c.st=0)(hs:iT M T (dJ t ++[bot c.fr]) c.fr c.ws [])(hl:c.ws.length≤400∧c.fr.length≤40)(hb:bot c.fr<M.aJ.length∧(bL M (bot c.fr)).kind=3):Ok M T {t with cs:=t.cs ++[c]} ch:=by
 have hlen:({t with cs:=t.cs ++[c]}:Tk).cs.length=t.cs.length+1:=aW;have hnow:=h.jS;have hcase:∀{k},k<t.cs.length+1→k<t.cs.length∨k=t.cs.length:=fun{k} hk=>by omega
 have hmk:∀{i k:Nat},ch[i]?=some k→k<t.cs.length:=fun h'=>h.mem _ (kO h');refine⟨h.now,by rw[hlen];omega,h.nodup,fun k hk=>by rw[hlen];have:=h.mem k hk;omega,fun k hk=>?_,fun i k hk=>?_,h.root,?_,fun i d k hd hk=>?_,fun k hk h0=>?_,fun k hk h1=>?_,fun k hk=>?_,fun k hk=>?_,fun k hk=>?_⟩
 ·rw[hlen]at hk;rcases hcase hk with hk|rfl
  ·rw[rI hk];exact h.going k hk
  ·rw[zM,hst];exact⟨fun e=>aA,fun e=>by have:=h.mem _ e;omega⟩
 ·rw[rI (hmk hk)];exact h.chain i k hk
 ·rw[zU,kP,rI hnow];exact h.top.grow
 ·rw[zU,rI (hmk hk),rI (hmk hd)];exact(h.wait i d k hd hk).grow
 ·rw[hlen]at hk;rcases hcase hk with hk|rfl
  ·rw[rI hk]at h0⊢;rw[zU];exact(h.fresh k hk h0).grow
  ·rw[zM,zU];exact hs
 ·rw[hlen]at hk;rcases hcase hk with hk|rfl
  ·rw[rI hk]at h1⊢;rw[zU];exact(h.held k hk h1).grow
  ·rw[zM]at h1;omega
 ·rw[hlen]at hk;rcases hcase hk with hk|rfl
  ·rw[rI hk];exact h.lens k hk
  ·rw[zM];exact hl
 ·rw[hlen]at hk;rcases hcase hk with hk|rfl
  ·rw[rI hk];exact h.kinds k hk
  ·rw[zM];refine⟨hb.1,?_⟩;rw[if_neg aA];exact hb.2
 ·rw[hlen]at hk;rcases hcase hk with hk|rfl
  ·rw[rI hk];exact h.bV k hk
  ·rw[zM,hst];omega
end
end Vm
end Go.Proofs.YtofckcabpchcmaaGreatDoor
