/- In a right module each box has one who sends and one who receives. Plain Lean. -/
import Derived.Test.YtofckcabpchcmaaGreatDoorM32
set_option linter.unusedVariables false
set_option linter.unusedSimpArgs false
set_option linter.unusedSectionVars false
set_option maxRecDepth 100000
namespace Go.Proofs.YtofckcabpchcmaaGreatDoor
namespace Vm
open ImgM Ver Opt
theorem HW:∀(l:List aY) (out:List Int),out<+:calls l out
 |[],out=>List.prefix_refl _
 |i::l,out=>by
  rw[DP];refine List.IsPrefix.trans ?_ (HW l _);unfold x8
  split
  ·exact List.prefix_append _ _
  ·exact List.prefix_refl _
theorem O7:∀(l:List aY) (out:List Int) (i:aY),i∈l→i.op=23∨i.op=29→i.a∈calls l out
 |j::l,out,i,hi,ho=>by
  rw[DP];rcases eB.1 hi with rfl|hi
  ·refine(HW l _).subset ?_;unfold x8
   by_cases h:i.a∈out
   ·rw[if_neg (fun h'=>h'.2 h)];exact h
   ·rw[if_pos ⟨ho,h⟩];simp
  ·exact O7 l _ i hi ho
theorem MH{M:aG}{N:Nat}(hc:∀k,k<N→∀i∈(M.aL.getD k default).code,i.op=23∨i.op=29→0≤i.a∧i.a<(N:Int)):∀(n k:Nat) (out:List Int),iH N out→N<n+k→
  (∀j,j<k→j<out.length→∀i∈(gT M (out.getD j 0)).code,i.op=23∨i.op=29→i.a∈out)→
  out<+:n8 M n k out∧∀x∈n8 M n k out,∀i∈(gT M x).code,i.op=23∨i.op=29→i.a∈n8 M n k out
 |n,k,out,h,hn,hcl=>by
  by_cases hk:k<out.length
  ·cases n with
   |zero=>have:=h.len;omega
   |succ n=>
    rw[UT hk];have hpre:=HW (M.aL.getD (out.getD k 0).toNat default).code out;have hget:∀j,j<out.length→(calls (M.aL.getD (out.getD k 0).toNat default).code out).getD j 0=out.getD j 0:=fun j hj=>by
     obtain⟨x,hx⟩:=hpre;rw[←hx,Jd,rF hj,←Jd]
    have ho:iH N (calls (M.aL.getD (out.getD k 0).toNat default).code out):=HV _ _ h (hc _ (by
     have:=h.ok (out.getD k 0) (by rw[Jd,Je hk];exact fB _);omega))
    obtain⟨h1,h2⟩:=MH hc n (k+1) _ ho (by omega) (fun j hj hj2 i hi hop=>by
     by_cases hjk:j=k
     ·subst hjk;rw[hget j hk]at hi;exact O7 _ _ i hi hop
     ·rw[hget j (by omega)]at hi;exact hpre.subset (hcl j (by omega) (by omega) i hi hop))
    exact⟨hpre.trans h1,h2⟩
  ·rw[US hk];refine⟨List.prefix_refl _,fun x hx i hi hop=>?_⟩;obtain⟨j,hj,rfl⟩:=mS hx;refine hcl j (by omega) hj i ?_ hop;rw[Jd,Je hj];exact hi
def Fin(R:Int→Prop)(t:Tk):Prop:=∀c∈t.cs,∀f∈c.fr,R (f.unit:Int)
section
variable{R:Int→Prop}
theorem Fin.cur{t:Tk}(h:Fin R t):∀f∈(Vm.cur t).fr,R (f.unit:Int):=by
 intro f hf;unfold Vm.cur at hf;rw[Jd]at hf
 cases hc:t.cs[t.now]? with
 |none=>rw[hc]at hf;cases hf
 |some c=>rw[hc]at hf;exact h c (jB hc) f hf
theorem Fin.co{t:Tk}(h:Fin R t)(k:Nat):∀f∈(t.cs.getD k default).fr,R (f.unit:Int):=by
 intro f hf;rw[Jd]at hf
 cases hc:t.cs[k]? with
 |none=>rw[hc]at hf;cases hf
 |some c=>rw[hc]at hf;exact h c (jB hc) f hf
theorem Fin.dM{t:Tk}(h:Fin R t)(k:Nat){c:Co}(hc:∀f∈c.fr,R (f.unit:Int)):Fin R (Vm.dM t k c):=by
 intro d hd f hf;rcases tU hd with hd|rfl
 ·exact h d hd f hf
 ·exact hc f hf
theorem Fin.setCur{t:Tk}(h:Fin R t){c:Co}(hc:∀f∈c.fr,R (f.unit:Int)):Fin R (Vm.setCur t c):=h.dM _ hc
theorem Fin.drop{t:Tk}(h:Fin R t)(n:Nat):Fin R (Vm.drop n t):=h.setCur h.cur
theorem Fin.same{t t':Tk}(h:Fin R t)(e:t'.cs=t.cs):Fin R t':=by unfold Fin;rw[e];exact h
theorem Fin.eR{t:Tk}(h:Fin R t)(p:Nat):Fin R (Vm.eR p t):=by
 refine h.setCur fun f hf=>?_
 unfold xH at hf;dsimp only at hf
 by_cases h0:(Vm.cur t).fr=[]
 ·rw[h0]at hf;cases hf
 ·rcases tU hf with hf|rfl
  ·exact h.cur f hf
  ·refine h.cur (fK (Vm.cur t)) ?_;unfold fK;have hl:0<(Vm.cur t).fr.length:=JP.2 h0;rw[Jd,Je (by omega)];exact fB _
section
variable{x:Int}{M:aG}
theorem zX(n:Int){r:Tk×List Ev}(h:Fin R r.1):Fin R (dS (rec x) n r).1:=by
 unfold dS
 split
 ·exact h
 ·exact h.same rfl
theorem n4(v:Int){r:Tk×List Ev}(h:Fin R r.1):Fin R (push (rec x) v r).1:=by
 unfold push
 split
 ·exact zX _ h
 ·exact h.setCur h.cur
theorem UE:∀(n:Nat) {r:Tk×List Ev},Fin R r.1→Fin R (eV (rec x) n r).1
 |0,r,h=>h
 |n+1,r,h=>by unfold eV;exact UE n (n4 0 h)
theorem iS{c:Prop} [Decidable c]{a b:Tk×List Ev}(h1:Fin R a.1)(h2:Fin R b.1):Fin R (if c then a else b).1:=by split<;>assumption
theorem aBK{c:Prop} [Decidable c]{a b:Tk}(h1:Fin R a)(h2:Fin R b):Fin R (if c then a else b):=by split<;>assumption
theorem aCS{i:aY}{t:Tk}(h:Fin R t)(hi:i.op=23∨i.op=29→R (i.a.toNat:Int)):Fin R (loc M x i t).1:=by
 unfold loc exec;dsimp only;refine iS (n4 _ h) ?_;refine iS (n4 _ h) ?_;refine iS (n4 _ h) ?_;refine iS ((h.drop 1).setCur (h.drop 1).cur) ?_;refine iS (h.drop 1) ?_;refine iS (n4 _ (h.drop 1)) ?_;refine iS (n4 _ (h.drop 1)) ?_;refine iS (iS (zX _ ((h.drop 1).drop 1)) (n4 _ ((h.drop 1).drop 1))) ?_;refine iS (h.eR _) ?_;refine iS (aBK ((h.drop 1).eR _) (h.drop 1)) ?_;refine iS (h.drop 1) ?_;refine iS (n4 _ h) ?_;refine iS ((h.drop 1).same rfl) ?_
 by_cases h23:i.op=23
 ·rw[if_pos h23];unfold rN;refine iS (zX _ h) (UE _ (h.setCur fun f hf=>?_));rcases dH.1 hf with hf|hf
  ·exact h.cur f hf
  ·simp at hf;subst hf;exact hi (.inl h23)
 rw[if_neg h23];refine iS ?_ ?_
 ·unfold ret;refine n4 _ (h.setCur fun f hf=>h.cur f ?_);exact List.mem_of_mem_take hf
 refine iS ?_ ?_
 ·unfold qM;dsimp only
  cases(Vm.cur t).up with
  |none=>
   exact Fin.same (t:=Vm.setCur t {Vm.cur t with st:=3,up:=none}) (h.setCur h.cur) rfl
  |some j=>exact n4 _ (Fin.same (t:=Vm.setCur t {Vm.cur t with st:=3,up:=none}) (h.setCur h.cur) rfl)
 by_cases h29:i.op=29
 ·rw[if_pos h29];unfold r0;dsimp only;refine iS (zX _ (h.drop _)) (n4 _ ?_);intro c hc f hf;rcases dH.1 hc with hc|hc
  ·exact h.drop _ c hc f hf
  ·simp at hc;subst hc;simp[begin]at hf;subst hf;exact hi (.inr h29)
 rw[if_neg h29];refine iS ?_ ?_
 ·unfold tI;dsimp only;refine iS (zX _ ((h.drop 1).drop 1)) ?_;refine iS (zX _ ((h.drop 1).drop 1)) ?_;have h2:=(h.drop 1).drop 1;have h3:∀k:Nat,Fin R ({Vm.dM (Vm.drop 1 (Vm.drop 1 t)) k {((Vm.drop 1 (Vm.drop 1 t)).cs.getD k default)with st:=2,up:=some (Vm.drop 1 (Vm.drop 1 t)).now}with now:=k}:Tk):=fun k=>Fin.same (t:=Vm.dM (Vm.drop 1 (Vm.drop 1 t)) k {((Vm.drop 1 (Vm.drop 1 t)).cs.getD k default)with st:=2,up:=some (Vm.drop 1 (Vm.drop 1 t)).now}) (h2.dM k (h2.co k)) rfl
  exact iS (h3 _) (n4 _ (h3 _))
 refine iS ?_ ?_
 ·unfold xO;dsimp only;exact n4 _ (Fin.same (t:=Vm.setCur (Vm.drop 1 t) {Vm.cur (Vm.drop 1 t)with st:=1,up:=none}) ((h.drop 1).setCur (h.drop 1).cur) rfl)
 exact iS (n4 _ (h.drop 1)) h
end
end
structure WK(M:aG)(ws:List (List Int)):Prop where
 len:ws.length=M.boxes.length
 iJ:∀b,∀v∈ws.getD b [],bG v
 gK:∀b,b<M.boxes.length→Typed (M.boxes.getD b default).1 (ws.getD b [])
theorem head_mem{l:List Int}(h:l.length≠0):l.headD 0∈l:=by
 cases l with
 |nil=>exact absurd rfl h
 |cons a r=>exact gU
theorem HS(M:aG)(cap:Nat→Nat):mP (qJ cap) M (WK M):=by
 refine⟨fun s b hK hb he=>?_,fun s b v hK hb _ hv ht=>?_,fun s e hK=>hK⟩
 ·have he':decide ((s.getD b []).length=0)=false:=he;rw[JY]at he';have hm:=head_mem he';refine⟨⟨by simp[qJ,hK.len],fun j v hv=>?_,fun j hj h2 v hv=>?_⟩,hK.iJ b _ hm,fun h2=>hK.gK b hb h2 _ hm⟩
  ·have hv':v∈(s.set b (s.getD b []).tail).getD j []:=hv;rw[rP (by rw[hK.len];exact hb)]at hv'
   split at hv'
   ·exact hK.iJ b v (List.mem_of_mem_tail hv')
   ·exact hK.iJ j v hv'
  ·have hv':v∈(s.set b (s.getD b []).tail).getD j []:=hv;rw[rP (by rw[hK.len];exact hb)]at hv'
   split at hv'
   ·rename_i e;subst e;exact hK.gK b hb h2 v (List.mem_of_mem_tail hv')
   ·exact hK.gK j hj h2 v hv'
 ·refine⟨by simp[qJ,hK.len],fun j w hw=>?_,fun j hj h2 w hw=>?_⟩
  ·have hw':w∈(s.set b (s.getD b [] ++[v])).getD j []:=hw;rw[rP (by rw[hK.len];exact hb)]at hw'
   split at hw'
   ·rcases dH.1 hw' with h|h
    ·exact hK.iJ b w h
    ·simp at h;subst h;exact hv
   ·exact hK.iJ j w hw'
  ·have hw':w∈(s.set b (s.getD b [] ++[v])).getD j []:=hw;rw[rP (by rw[hK.len];exact hb)]at hw'
   split at hw'
   ·rename_i e;subst e
    rcases dH.1 hw' with h|h
    ·exact hK.gK b hb h2 w h
    ·simp at h;subst h;exact ht h2
   ·exact hK.gK j hj h2 w hw'
theorem WK.nil(M:aG):WK M (List.replicate M.boxes.length []):=
 ⟨by simp,(fun b v hv=>by rw[oS]at hv;cases hv),(fun b hb h2 v hv=>by rw[oS]at hv;cases hv)⟩
def Gd(M:aG)(T:Nat→Int→Option Shape)(t:Tk):Prop:=t.st=5∨t.st=4∨(t.st=1∧∃ch,Ok M T t ch)
theorem Gd.ok{M:aG}{T:Nat→Int→Option Shape}{t:Tk}(h:Gd M T t)(h1:t.st=1):∃ch,Ok M T t ch:=by
 rcases h with h|h|h
 ·omega
 ·omega
 ·exact h.2
inductive Path(M:aG)(T:Nat→Int→Option Shape)(t0:Tk):List Int→Prop
 |nil:Path M T t0 []
 |step {xs:List Int} (h:Path M T t0 xs) (h1:(bI M t0 xs).st=1) (ho:∃ch,Ok M T (bI M t0 xs) ch) (x:Int):Path M T t0 (xs ++[x])
theorem aD4{t:Tk}(h:t.st=1∨t.st=4∨t.st=5):(bQ t).st=t.st:=by
 unfold bQ;rcases h with h|h|h
 ·rw[if_pos (by omega)];exact h.symm
 ·rw[if_neg (by omega)]
 ·rw[if_neg (by omega)]
theorem aCQ{M:aG}{T:Nat→Int→Option Shape}(hC:dF M T){cap:Nat→Nat}{t:Tk}{ws:List (List Int)}(hg:Gd M T t)(hw:WK M ws)(hc:Can M cap t ws):
  Gd M T (iC M (fL M t ws) t).1∧WK M ((iC M (fL M t ws) t).2.foldl rA ws):=by
 obtain⟨ch,hok⟩:=hg.ok hc.st;have hwt:((aV M t).op=26→(qJ cap).full ws (aV M t).a.toNat=false)∧((aV M t).op=27→(qJ cap).empty ws (aV M t).a.toNat=false):=
  ⟨fun o=>decide_eq_false (hc.send o),fun o=>decide_eq_false (hc.recv o)⟩
 have hr:=II hC (HS M cap) hok hw hwt;have hst:=QG hC (HS M cap) (aV M t) (eR ((fK (cur t)).pc+1) t,ws);have e:=QF (qJ cap) M (fL M t ws) ws (aV M t) (E5 t) (fun o=>by unfold fL;rw[if_pos o];rfl);have e':exec (qJ cap) M (aV M t) (eR ((fK (cur t)).pc+1) t,ws)=pl (qJ cap) ws (kJ M (fL M t ws) t):=e;rw[e']at hr hst;refine⟨?_,by have:=hr.2;rw[show(pl (qJ cap) ws (kJ M (fL M t ws) t)).2=_ from aEO cap _ ws]at this;exact this⟩;have hs1:(kJ M (fL M t ws) t).1.st=t.st∨(kJ M (fL M t ws) t).1.st=5∨(kJ M (fL M t ws) t).1.st=4:=hst;rw[hc.st]at hs1;have hn:=aD4 (t:=(kJ M (fL M t ws) t).1) (by omega);rcases hr.1 with h|h|⟨ch',h⟩
 ·exact .inl (hn.trans h)
 ·exact .inr (.inl (hn.trans h))
 ·rcases hs1 with h1|h1|h1
  ·refine .inr (.inr ⟨hn.trans h1,ch',?_⟩);show Ok M T (bQ (kJ M (fL M t ws) t).1) ch';unfold bQ;rw[if_pos (by omega)];exact h.st _ _
  ·exact .inl (hn.trans h1)
  ·exact .inr (.inl (hn.trans h1))
section
variable{M:aG}{T:Nat→Int→Option Shape}(hC:dF M T){L:List Nat}(hL:∀u∈L,u<M.aL.length∧(bD M u).kind=4)
include hC hL
theorem AX{k:Nat}(hk:k<L.length):(L.map (new M)).getD k default=new M (L.getD k 0)∧L.getD k 0∈L:=by
 refine⟨?_,?_⟩
 ·rw[Jd,Jd,JU,Je hk];rfl
 ·rw[Jd,Je hk];exact fB _
theorem FU{cap:Nat→Nat}{n:Nat}{xs:Nat→List Int}{ws:List (List Int)}(h:gV M cap (L.map (new M)) n xs ws):(∀k,k<L.length→Gd M T (bI M ((L.map (new M)).getD k default) (xs k)))∧WK M ws:=by
 induction h with
 |nil=>
  refine⟨fun k hk=>?_,WK.nil M⟩;obtain⟨e,hm⟩:=AX hC hL hk;obtain⟨h1,h2⟩:=hL _ hm;show Gd M T ((L.map (new M)).getD k default);rw[e];exact .inr (.inr ⟨rfl,[0],E7 hC h1 h2⟩)
 | @step n j xs ws h hj hc ih=>
  have hj':j<L.length:=by simpa using hj
  obtain⟨h1,h2⟩:=aCQ hC (ih.1 j hj') ih.2 hc;refine⟨fun k hk=>?_,h2⟩
  by_cases hkj:k=j
  ·subst hkj;rw[AF,yV];exact h1
  ·rw[AE _ _ hkj];exact ih.1 k hk
theorem FV{cap:Nat→Nat}{n:Nat}{xs:Nat→List Int}{ws:List (List Int)}(h:gV M cap (L.map (new M)) n xs ws):∀k,k<L.length→Path M T (new M (L.getD k 0)) (xs k):=by
 induction h with
 |nil=>intro k hk;exact .nil
 | @step n j xs ws h hj hc ih=>
  intro k hk
  by_cases hkj:k=j
  ·subst hkj;rw[AF];have h1:=hc.st;have hg:=(FU hC hL h).1 k hk;rw[(AX hC hL hk).1]at h1 hg;exact .step (ih k hk) h1 (hg.ok h1) _
  ·rw[AE _ _ hkj];exact ih k hk
end
section
variable{M:aG}{T:Nat→Int→Option Shape}(hC:dF M T){u:Nat}(hu:u<M.aL.length)
include hC hu
theorem aDy{xs:List Int}(h:Path M T (new M u) xs):Fin (fun x=>x∈reach M u) (bI M (new M u) xs):=by
 induction h with
 |nil=>
  intro c hc f hf;have hc:c∈(new M u).cs:=hc;simp[new]at hc;subst hc;simp[begin]at hf;subst hf;exact(MH (DO hC.form) (M.aL.length+1) 0 [(u:Int)] (iH.one hu) (by omega) (fun j hj=>by omega)).1.subset (by simp)
 | @step xs h h1 ho x ih=>
  rw[yV];generalize bI M (new M u) xs=t at *;obtain⟨ch,hok⟩:=ho;obtain⟨fs0,ws0,q,p,st,hh,loc,op,a⟩:=hok.at_;obtain⟨st',h',hr⟩:=a.here hC;have hq:((q:Nat):Int)∈reach M u:=ih.cur ⟨q,p,ws0.length⟩ (by rw[a.fr];simp);have hin:aV M t∈(gT M (q:Int)).code:=by
   have:=hr.ins;rw[←this];show(bD M q).code.getD p default∈(bD M q).code;exact Opt.K6 hr.lt
  have hcl:=(MH (DO hC.form) (M.aL.length+1) 0 [(u:Int)] (iH.one hu) (by omega) (fun j hj=>by omega)).2;have hrf:Fin (fun x=>x∈reach M u) (kJ M x t).1:=by
   refine aCS (ih.eR _) (fun o=>?_);have hia:=hcl _ hq (aV M t) hin o;have hge:0≤(aV M t).a:=by
    have:=(DO hC.form) q a.hq (aV M t) hin o;exact this.1
   rw[qF hge];exact hia
  show Fin _ (bQ (kJ M x t).1);unfold bQ
  split
  ·exact hrf.same rfl
  ·exact hrf
theorem TY{xs:List Int}(h:Path M T (new M u) xs)(ho:∃ch,Ok M T (bI M (new M u) xs) ch):
  (∃x∈reach M u,aV M (bI M (new M u) xs)∈(gT M x).code)∧∃u',rE M u' (aV M (bI M (new M u) xs)):=by
 have hf:=aDy hC hu h;generalize bI M (new M u) xs=t at *;obtain⟨ch,hok⟩:=ho;obtain⟨fs0,ws0,q,p,st,hh,loc,op,a⟩:=hok.at_;obtain⟨st',h',hr⟩:=a.here hC;refine⟨⟨(q:Int),hf.cur ⟨q,p,ws0.length⟩ (by rw[a.fr];simp),?_⟩,_,hr.ok⟩;rw[←hr.ins];show(bD M q).code.getD p default∈(bD M q).code;exact Opt.K6 hr.lt
theorem RM{xs:List Int}(h:Path M T (new M u) xs)(ho:∃ch,Ok M T (bI M (new M u) xs) ch){op b:Int}(o:(aV M (bI M (new M u) xs)).op=op)(ha:(aV M (bI M (new M u) xs)).a=b):hY M op b u=true:=by
 obtain⟨⟨x,hx,hin⟩, -⟩:=TY hC hu h ho;unfold hY;rw[qD];refine⟨x,hx,?_⟩;rw[qD];exact⟨_,hin,by simp[o,ha]⟩
theorem aEA{xs:List Int}(h:Path M T (new M u) xs)(b:Nat):(snd b (dD M (new M u) xs)≠[]→hY M 26 (b:Int) u=true)∧(dR b (dD M (new M u) xs)≠[]→hY M 27 (b:Int) u=true):=by
 induction h with
 |nil=>exact⟨fun h=>absurd rfl h,fun h=>absurd rfl h⟩
 | @step xs h h1 ho x ih=>
  rw[yQ];obtain⟨ih1,ih2⟩:=ih;have hu':=fun op (o:_=op) (ha:_=(b:Int))=>RM hC hu h ho o ha
  generalize bI M (new M u) xs=t at *;have hbd:=(BQ (M:=M) (x:=x) h1).ex;refine⟨fun hne=>?_,fun hne=>?_⟩
  ·rw[zP]at hne
   by_cases h0:snd b (dD M (new M u) xs)=[]
   ·rw[h0,Jk]at hne;rcases hbd with⟨o,v,h1, -⟩|⟨o,h1, -⟩|⟨o, -,h1, -⟩
    ·rw[h1]at hne
     by_cases ha:(aV M t).a=(b:Int)
     ·exact hu' 26 o ha
     ·rw[if_neg ha]at hne;exact absurd rfl hne
    ·rw[h1]at hne;exact absurd rfl hne
    ·rw[h1]at hne;exact absurd rfl hne
   ·exact ih1 h0
  ·rw[xB]at hne
   by_cases h0:dR b (dD M (new M u) xs)=[]
   ·rw[h0,Jk]at hne;rcases hbd with⟨o,v, -,h1, -⟩|⟨o, -,h1, -⟩|⟨o, -, -,h1, -⟩
    ·rw[h1]at hne;exact absurd rfl hne
    ·rw[h1]at hne
     by_cases ha:(aV M t).a=(b:Int)
     ·exact hu' 27 o ha
     ·rw[if_neg ha]at hne;exact absurd rfl hne
    ·rw[h1]at hne;exact absurd rfl hne
   ·exact ih2 h0
end
theorem aBL{l:List Nat}{p:Nat→Bool}{k:Nat}(hk:k<l.length)(hp:p (l.getD k 0)=true):l.findIdx p≤k:=by
 refine Nat.not_lt.1 fun h=>?_
 have:=List.not_of_lt_findIdx h;rw[Jd,Je hk]at hp;simp at hp;rw[hp]at this;cases this
theorem aHW{M:aG}{op b:Int}(h:jR M op b≤1){j k:Nat}(hj:j<(tasks M).length)(hk:k<(tasks M).length)(uj:hY M op b ((tasks M).getD j 0)=true)(uk:hY M op b ((tasks M).getD k 0)=true):j=k:=by
 have e:jR M op b=((tasks M).filter (hY M op b)).length:=by
  unfold jR tasks;rw[List.filter_filter];congr 1;refine List.filter_congr (fun k _=>?_);rw[Bool.and_comm]
 rw[e]at h;refine nM fun hne=>?_
 have key:∀(l:List Nat) (j k:Nat),j<k→k<l.length→hY M op b (l.getD j 0)=true→hY M op b (l.getD k 0)=true→2≤(l.filter (hY M op b)).length:=by
  intro l
  induction l with
  |nil=>intro j k _ h;simp at h
  |cons a l ih=>
   intro j k hjk hk hj hkk
   cases k with
   |zero=>omega
   |succ k=>
    cases j with
    |zero=>
     have ha:hY M op b a=true:=hj;have hm:l.getD k 0∈l.filter (hY M op b):=by
      rw[lP];refine⟨?_,hkk⟩;have hk':k<l.length:=by simpa using hk
      rw[Jd,Je hk'];exact fB _
     have:=List.length_pos_of_mem hm;rw[pJ,if_pos ha,JW];omega
    |succ j=>
     have:=ih j k (by omega) (by simpa using hk) hj hkk;rw[pJ]
     split
     ·rw[JW];omega
     ·exact this
 rcases Nat.lt_or_gt_of_ne hne with h'|h'
 ·have:=key _ j k h' hk uj uk;omega
 ·have:=key _ k j h' hj uk uj;omega
def n9(M:aG)(b:Nat):Nat:=(tasks M).findIdx (hY M 26 (b:Int))
def MC(M:aG)(b:Nat):Nat:=(tasks M).findIdx (hY M 27 (b:Int))
theorem o6(M:aG):∀u∈tasks M,u<M.aL.length∧(bD M u).kind=4:=fun u hu=>by
 unfold tasks at hu;rw[lP,nN,JV]at hu;exact hu
theorem IK{M:aG}{T:Nat→Int→Option Shape}(hC:dF M T)(hR:sP M)(op:Int)(ho:op=26∨op=27)(b k:Nat)(hk:k<(tasks M).length)(hu:hY M op (b:Int) ((tasks M).getD k 0)=true):k=(tasks M).findIdx (hY M op (b:Int)):=by
 have hle:=aBL hk hu;have hlt:(tasks M).findIdx (hY M op (b:Int))<(tasks M).length:=by omega
 have hfu:hY M op (b:Int) ((tasks M).getD ((tasks M).findIdx (hY M op (b:Int))) 0)=true:=by
  rw[Jd,Je hlt];exact List.findIdx_getElem (w:=hlt)
 by_cases hb:b<M.boxes.length
 ·have:=hR.owned b hb;have h1:jR M op (b:Int)≤1:=by rcases ho with rfl|rfl;exact this.1;exact this.2
  exact aHW h1 hk hlt hu hfu
 ·have hm:(tasks M).getD k 0∈tasks M:=by
   rw[Jd,Je hk];exact fB _
  have:=aHX hR.form ho (b:=(b:Int)) (by omega) (o6 M _ hm).1;rw[this]at hu;cases hu
theorem F9{M:aG}{k:Nat}(hk:k<(tasks M).length):(tasks M).getD k 0<M.aL.length∧(bD M ((tasks M).getD k 0)).kind=4:=
 o6 M _ (by rw[Jd,Je hk];exact fB _)
theorem L0{M:aG}{T:Nat→Int→Option Shape}(hC:dF M T)(hR:sP M){k:Nat}(hk:k<(tasks M).length){xs:List Int}(h:Path M T (new M ((tasks M).getD k 0)) xs)(b:Nat):
  (k≠n9 M b→snd b (dD M (new M ((tasks M).getD k 0)) xs)=[])∧(k≠MC M b→dR b (dD M (new M ((tasks M).getD k 0)) xs)=[]):=by
 obtain⟨h1,h2⟩:=aEA hC (F9 hk).1 h b;exact⟨fun hne=>nM fun h0=>hne (IK hC hR 26 (.inl rfl) b k hk (h1 h0)),fun hne=>nM fun h0=>hne (IK hC hR 27 (.inr rfl) b k hk (h2 h0))⟩
theorem B8{M:aG}{T:Nat→Int→Option Shape}(hC:dF M T){k:Nat}(hk:k<(tasks M).length){xs:List Int}(h:Path M T (new M ((tasks M).getD k 0)) xs)(ho:∃ch,Ok M T (bI M (new M ((tasks M).getD k 0)) xs) ch)
  (o:(aV M (bI M (new M ((tasks M).getD k 0)) xs)).op=26∨(aV M (bI M (new M ((tasks M).getD k 0)) xs)).op=27):0≤(aV M (bI M (new M ((tasks M).getD k 0)) xs)).a∧cL M (bI M (new M ((tasks M).getD k 0)) xs)<M.boxes.length:=by
 obtain⟨-,u,hio⟩:=TY hC (F9 hk).1 h ho;have:=hio.box o;exact⟨this.1,by simp only[cL];omega⟩
theorem LV{M:aG}{T:Nat→Int→Option Shape}(hC:dF M T)(hR:sP M):AZ M ((tasks M).map (new M)) (n9 M) (MC M):=by
 have hlen:((tasks M).map (new M)).length=(tasks M).length:=Jf _;refine⟨fun{cap n xs ws} h k hk b hne=>?_,fun{cap n xs ws} h k hk b hne=>?_,fun{cap n xs ws} h k hk h1 ho=>?_⟩
 ·rw[hlen]at hk;rw[(AX hC (o6 M) hk).1];exact(L0 hC hR hk (FV hC (o6 M) h k hk) b).1 hne
 ·rw[hlen]at hk;rw[(AX hC (o6 M) hk).1];exact(L0 hC hR hk (FV hC (o6 M) h k hk) b).2 hne
 ·rw[hlen]at hk;have hg:=(FU hC (o6 M) h).1 k hk;rw[(AX hC (o6 M) hk).1]at h1 ho hg⊢;exact B8 hC hk (FV hC (o6 M) h k hk) (hg.ok h1) ho
def KB(M:aG)(s:Bs):Prop:=WK M s.ws
theorem O4(M:aG)(k:Option Nat):mP (bJ M k) M (KB M):=by
 have h0:=HS M (fT M);refine⟨fun s b hK hb he=>h0.take s.ws b hK hb he,fun s b v hK hb hf hv ht=>h0.put s.ws b v hK hb hf hv ht,fun s e hK=>?_⟩
 cases k with
 |none=>exact hK
 |some k=>exact hK
structure Ma.Ok(M:aG)(T:Nat→Int→Option Shape)(c:Ma):Prop where
 kQ:∀t∈c.ts,Good M T (KB M) (t,c.bs)
 out:∀t∈c.ts,t.out.length≤2*c.n
 log:c.bs.log.length≤4*c.n
 n:c.n≤20000
theorem Good.aH9{M:aG}{T:Nat→Int→Option Shape}{ν:Type}{K:ν→Prop}{t:Tk}{s s':ν}(h:Good M T K (t,s))(hs:K s'):Good M T K (t,s'):=⟨h.1,hs⟩
theorem Ma.Ok.init{M:aG}{T:Nat→Int→Option Shape}(hC:dF M T):(Ma.init M).Ok M T:=by
 refine⟨fun t ht=>?_,fun t ht=>?_,bP _,bP _⟩
 ·obtain⟨u,hu,rfl⟩:=fD.1 ht;obtain⟨h1,h2⟩:=o6 M u hu;exact⟨.inr (.inr ⟨show(1:Int)≤3 by decide,[0],E7 hC h1 h2⟩),WK.nil M⟩
 ·obtain⟨u,hu,rfl⟩:=fD.1 ht;exact bP _
section
variable{M:aG}{T:Nat→Int→Option Shape}
theorem RD{k:Option Nat}:∀(n:Nat) (r:Tk×Bs),(goN (bJ M k) M n r).2.1.out.length≤r.1.out.length+2*(goN (bJ M k) M n r).1∧(goN (bJ M k) M n r).2.2.log.length≤r.2.log.length+4*(goN (bJ M k) M n r).1
 |0,r=>by simp[goN]
 |n+1,r=>by
  have hsz:=F4 (M:=M) (V:=bJ M k) (sz:=fun s:Bs=>s.log.length) (fun v b x=>l6 _) (fun v b=>l6 _) (fun v x=>by
   cases k with
   |none=>exact l6 _
   |some k=>show(v.log ++[(k,x)]).length≤v.log.length+1;simp) r
  have ho:=M1 (V:=bJ M k) (M:=M) r;obtain⟨h1,h2⟩:=RD (k:=k) n (step (bJ M k) M r).2;unfold goN
  by_cases hs:(step (bJ M k) M r).1=true
  ·rw[if_pos hs];dsimp only at hsz⊢;omega
  ·rw[if_neg hs];have hn:(look (bJ M k) M r).1.st≠1:=fun h=>by rw[vB _ M h]at hs;exact hs rfl
   rw[zQ _ M hn,kT,(uR _ M r).1];dsimp only;omega
structure OF(M:aG)(T:Nat→Int→Option Shape)(n:Nat)(r:Tk×Bs)(p:(Int×Nat)×(Tk×Bs)):Prop where
 kQ:Good M T (KB M) p.2
 out:p.2.1.out.length≤r.1.out.length+2*p.1.2
 log:p.2.2.log.length≤r.2.log.length+4*p.1.2
 n:n+p.1.2≤20000
theorem aED(hC:dF M T){k:Option Nat}{n:Nat}{q:Int}{r:Tk×Bs}(hn:n≤20000)(h:Good M T (KB M) r):OF M T n r (j8 (bJ M k) M n q r):=by
 unfold j8
 by_cases h1:q<1∨10000<q
 ·rw[if_pos h1];exact⟨h,cG _,cG _,hn⟩
 rw[if_neg h1]
 by_cases h2:(look (bJ M k) M r).1.st≠1
 ·rw[if_pos h2];exact⟨uQ h,by rw[(uR _ M r).1];exact cG _,by rw[kT];exact cG _,hn⟩
 rw[if_neg h2];have hg:=I2 hC (O4 M k) (min q.toNat (20000-n)) (uQ (V:=bJ M k) h);have hsz:=RD (M:=M) (k:=k) (min q.toNat (20000-n)) (look (bJ M k) M r);have hle:=I3 (V:=bJ M k) (M:=M) (min q.toNat (20000-n)) (look (bJ M k) M r);rw[(uR _ M r).1,kT]at hsz;generalize goN (bJ M k) M (min q.toNat (20000-n)) (look (bJ M k) M r)=g at *;have e:(if g.1=0 then((10:Int),0)else(0,g.1)).2=g.1:=by
  split
  ·rename_i h;exact h.symm
  ·rfl
 refine⟨hg,?_,?_,?_⟩
 ·dsimp only;rw[e];exact hsz.1
 ·dsimp only;rw[e];exact hsz.2
 ·dsimp only;rw[e];omega
theorem Ma.Ok.at_{c:Ma}(h:c.Ok M T){k:Nat}(hk:k<c.ts.length):c.ts.getD k default∈c.ts:=by
 rw[Jd,Je hk];exact fB _
theorem Ma.Ok.put{c:Ma}(h:c.Ok M T){k:Nat}(hk:k<c.ts.length){p:(Int×Nat)×(Tk×Bs)}(hp:OF M T c.n (c.at_ k) p):(⟨c.ts.set k p.2.1,p.2.2,c.n+p.1.2⟩:Ma).Ok M T:=by
 refine⟨fun t ht=>?_,fun t ht=>?_,?_,hp.n⟩
 ·rcases tU ht with ht|rfl
  ·exact(h.kQ t ht).aH9 hp.kQ.2
  ·exact hp.kQ
 ·rcases tU ht with ht|rfl
  ·have:=h.out t ht;dsimp only;omega
  ·have h1:=hp.out;have h2:=h.out _ (h.at_ hk);have h3:(c.at_ k).1.out.length≤2*c.n:=h2;dsimp only;omega
 ·have h1:=hp.log;have h2:=h.log;have h3:(c.at_ k).2.log.length≤4*c.n:=h2;dsimp only;omega
theorem Ma.Ok.pick(hC:dF M T){c:Ma}(h:c.Ok M T)(told:Bool)(p:Int×Int):(Vm.pick M told c p).2.Ok M T:=by
 unfold Vm.pick
 by_cases h1:p.1<0∨(c.ts.length:Int)≤p.1
 ·rw[if_pos h1];exact h
 ·rw[if_neg h1];have hk:p.1.toNat<c.ts.length:=by omega
  exact h.put hk (aED hC h.n (h.kQ _ (h.at_ hk)))
theorem Ma.Ok.looked{c:Ma}(h:c.Ok M T):(c.looked M).Ok M T:=by
 refine⟨fun t ht=>?_,fun t ht=>?_,h.log,h.n⟩
 ·obtain⟨t0,h0,rfl⟩:=fD.1 ht;have:=uQ (V:=bJ M none) (h.kQ t0 h0);have e:look (bJ M none) M (t0,c.bs)=((look (bJ M none) M (t0,c.bs)).1,c.bs):=oK rfl (kT _ M _);rw[e]at this;exact this
 ·obtain⟨t0,h0,rfl⟩:=fD.1 ht;rw[(uR _ M _).1];exact h.out t0 h0
end
end Vm
namespace Vw
open Go.RowKit Img
section
attribute [local irreducible] aE aB End aA Still aM aP RunT Fn aO
structure rJ where
 xb:Nat
 mb:Nat
 to:Option Addr
 tc:Nat
 cH:List Nat
 p:l0
abbrev E0(m:ML)(p:l0):cN:=O1 m.aC p none trivial
abbrev j5(m:ML)(x:rJ)(ts:List bW)(e:dT)(n:Nat):List Chunk:=[aD x.xb (j4 x.to x.cH.length x.tc x.p.bo x.p.bs.length x.p.bc n) 160,aD x.mb (fN m) 26,arr x.to x.cH.length x.tc 95 gH x.cH,mW x.p e,o7 x.mb (sT x.p.bo x.p.bs.length x.p.bc) (fun _=> .nilFunc) ts]
abbrev cM(ts:List bW)(e:dT)(n:Nat):Vm.Ma:=⟨ts.map bW.tk,e.abs,n⟩
structure kN(m:ML)(T:Nat→Int→Option Ver.Shape)(x:rJ)(ts:List bW)(e:dT)(n:Nat):Prop where
 cH:ts.map (·.tb)=x.cH
 wf:∀t∈ts,t.Wf
 bx:oE m.aC x.p e
 ok:(cM ts e n).Ok m.aC T
structure l7(m:ML)(ts0:List bW)(e:dT)(k:Nat)(ts:List bW):Prop where
 len:ts.length=ts0.length
 at_:∀j,j<ts0.length→(ts.getD j default).tb=(ts0.getD j default).tb∧(ts.getD j default).Wf∧(ts.getD j default).tk=if j<k then(Vm.look (Vm.bJ m.aC none) m.aC ((ts0.getD j default).tk,e.abs)).1 else(ts0.getD j default).tk
section
variable{m:ML}{T:Nat→Int→Option Ver.Shape}{x:rJ}{ts ts0:List bW}{e:dT}{n k:Nat}
theorem NC{l:List bW}{k:Nat}(hk:k<l.length):l.getD k default∈l:=by
 rw[Jd,Je hk];exact fB hk
theorem l7.zero(h:kN m T x ts0 e n):l7 m ts0 e 0 ts0:=⟨rfl,fun j hj=>⟨rfl,h.wf _ (NC hj),by rw[if_neg (by omega)]⟩⟩
theorem l7.next(h:kN m T x ts0 e n)(hl:l7 m ts0 e k ts)(hk:k<ts0.length):l7 m ts0 e (k+1) (ts.set k ((((ts.getD k default).sl (E0 m x.p) e).look m).lay (ts.getD k default).tb)):=by
 have hz:((ts.getD k default).sl (E0 m x.p) e).Wf:=(hl.at_ k hk).2.1.sl h.bx;refine⟨by simpa using hl.len,fun j hj=>?_⟩;have hg:∀t,(ts.set k t).getD j default=if k=j then t else ts.getD j default:=fun t=>by
  simp only[Jd,pI]
  by_cases hkj:k=j
  ·subst hkj;rw[if_pos rfl,if_pos rfl,if_pos (by rw[hl.len];exact hk)];rfl
  ·rw[if_neg hkj,if_neg hkj]
 rw[hg]
 by_cases hkj:k=j
 ·subst hkj;rw[if_pos rfl];have ha:=hl.at_ k hk;have ht:=ha.2.2;rw[if_neg (by omega)]at ht;refine⟨ha.1,(hz.look m).lay _,?_⟩;rw[if_pos (by omega),←ht];exact congrArg (·.1) (hz.gQ m)
 ·rw[if_neg hkj];obtain⟨a1,a2,a3⟩:=hl.at_ j hj;refine⟨a1,a2,?_⟩;rw[a3]
  by_cases hjk:j<k
  ·rw[if_pos hjk,if_pos (by omega)]
  ·rw[if_neg hjk,if_neg (by omega)]
theorem l7.cH(h:kN m T x ts0 e n)(hl:l7 m ts0 e k ts):ts.map (·.tb)=x.cH:=by
 rw[←h.cH];refine mT (by simpa using hl.len) fun j h1 h2=>?_
 simp only[Jf]at h1 h2;have:=(hl.at_ j h2).1;simp only[Jd,Je h1,Je h2,JZ]at this;simpa using this
theorem l7.done(h:kN m T x ts0 e n)(hl:l7 m ts0 e ts0.length ts):kN m T x ts e n∧cM ts e n=(cM ts0 e n).looked m.aC:=by
 have e1:ts.map bW.tk=(ts0.map bW.tk).map fun t=>(Vm.look (Vm.bJ m.aC none) m.aC (t,e.abs)).1:=by
  refine mT (by simpa using hl.len) fun j h1 h2=>?_
  simp only[Jf]at h1 h2;have:=(hl.at_ j h2).2.2;rw[if_pos h2]at this;simp only[Jd,Je h1,Je h2,JZ]at this;simpa using this
 have e2:cM ts e n=(cM ts0 e n).looked m.aC:=by unfold Vm.Ma.looked;rw[←e1]
 refine⟨⟨hl.cH h,fun t ht=>?_,h.bx,by rw[e2];exact h.ok.looked⟩,e2⟩;obtain⟨j,hj,rfl⟩:=mS ht;have:=(hl.at_ j (by rw[←hl.len];exact hj)).2.1;rwa [Jd,Je hj]at this
theorem kN.kQ(h:kN m T x ts0 e n)(hl:l7 m ts0 e k ts)(hk:k<ts0.length):Vm.Good m.aC T (Vm.KB m.aC) ((ts.getD k default).sl (E0 m x.p) e).two:=by
 have ht:=(hl.at_ k hk).2.2;rw[if_neg (by omega)]at ht;show Vm.Good m.aC T (Vm.KB m.aC) ((ts.getD k default).tk,e.abs);rw[ht];exact h.ok.kQ _ (fD.2 ⟨_,NC hk,rfl⟩)
end
def n7(c:Vm.Ma)(k:Nat):List Nat:=(List.range k).filter (fun j=>decide ((c.ts.getD j default).st=1))
theorem aEa(c:Vm.Ma)(k:Nat):(n7 c k).length≤k:=by
 unfold n7;have:=pG (fun j=>decide ((c.ts.getD j default).st=1)) (List.range k);simpa using this
theorem aEf(c:Vm.Ma)(k:Nat):n7 c (k+1)=n7 c k ++if(c.ts.getD k default).st=1 then [k]else []:=by
 unfold n7;rw[oJ,oH];congr 1;simp only[pJ,List.filter_nil]
 by_cases h:(c.ts.getD k default).st=1<;>simp only[h,decide_true,decide_false,if_true,if_false,xS]
set_option maxHeartbeats 2000000 in
theorem UU(m:ML){T:Nat→Int→Option Ver.Shape}(hC:Vm.dF m.aC T)(x:rJ)(ts:List bW)(e:dT)(n:Nat)(h:kN m T x ts e n)(hn:ts.length≤30):
  Fn Tryz.prog 27 #[ptr x.xb] [md m,gX x.p] (j5 m x ts e n) (σ:=List bW×Option Addr×Nat) (fun s=>kN m T x s.1 e n∧cM s.1 e n=(cM ts e n).looked m.aC)
   (fun s=> .slice s.2.1 ((cM ts e n).looked m.aC).ready.length s.2.2) (fun s=>arr s.2.1 ((cM ts e n).looked m.aC).ready.length s.2.2 3 eC ((cM ts e n).looked m.aC).ready::j5 m x s.1 e n):=by
 obtain⟨C,hC'⟩:∃C,C=(cM ts e n).looked m.aC:=⟨_,rfl⟩;rw[←hC'];have htb:x.cH.length=ts.length:=by rw[←h.cH,Jf]
 have hCl:C.ts.length=ts.length:=by rw[hC'];simp[Vm.Ma.looked]
 have hFr:C.ready=n7 C ts.length:=by unfold Vm.Ma.ready n7;rw[hCl]
 rw[hFr];clear hFr;refine JE [ptr x.xb] Tryz.func27 Tryz.ntmps27 fun w S=>?_
 (refine Jn ?_)
 repeat(refine Jy ?_)
 apply aB.imp (fun w hm=>hm.bY 3 eC);refine aB.only ((fun z=>aI w S::md m::gX x.p::arr z.2.2.1 (n7 C z.1).length z.2.2.2 3 eC (n7 C z.1)::j5 m x z.2.1 e n) (0,ts,none,0)) (aK) ?_;apply aB.loop (σ:=Nat×List bW×Option Addr×Nat) (fun z=>z.1≤ts.length∧l7 m ts e z.1 z.2.1) (fun z=>[(3, .slice z.2.2.1 (n7 C z.1).length z.2.2.2),(9, .slice x.to x.cH.length x.tc),(10, .int .i64 (x.cH.length:Int)),(11, .int .i64 (z.1:Int))]) (fun z=>aI w S::md m::gX x.p::arr z.2.2.1 (n7 C z.1).length z.2.2.2 3 eC (n7 C z.1)::j5 m x z.2.1 e n) (fun z=>ts.length-z.1) (0,ts,none,0)
 rotate_left
 exact sb;exact aK;intro z hz K1 hK1;(refine Jn ?_)
 rotate_left
 ·exact⟨bP _,l7.zero h⟩
 obtain⟨q,us,ao,ac⟩:=z;obtain⟨hq0,hl⟩:=hz;dsimp only at hq0 hl hK1⊢;have hrl:=aEa C q
 by_cases hq:q<ts.length
 ·have hsn:=aEf C q;obtain⟨t,ht⟩:∃t,t=us.getD q default:=⟨_,rfl⟩;have hz:=(hl.at_ q hq).2.1.sl (E:=E0 m x.p) h.bx;have hg:=h.kQ hl hq;have hnx:=hl.next h hq;have hlu:q<us.length:=by rw[hl.len];exact hq
  rw[←ht]at hz hg hnx;have htbq:x.cH.getD q default=t.tb:=by
   rw[←hl.cH h,ht,Jd,Jd,JU,Je hlu];rfl
  have hCq:(C.ts.getD q default).st=(((t.sl (E0 m x.p) e).look m).st):=by
   have h1:=(hnx.at_ q hq).2.2;rw[if_pos (by omega)]at h1;have e2:(us.set q ((((t.sl (E0 m x.p) e).look m)).lay t.tb)).getD q default=((t.sl (E0 m x.p) e).look m).lay t.tb:=by
    rw[Jd,JS hlu];rfl
   rw[e2]at h1;have h3:C.ts.getD q default=(Vm.look (Vm.bJ m.aC none) m.aC ((ts.getD q default).tk,e.abs)).1:=by
    rw[hC'];unfold Vm.Ma.looked;rw[Jd,JU];simp only[cM,JU,Je hq,a8,JZ,Jd]
   rw[h3,←h1];rfl
  apply aB.imp (fun w hm=>by have:=Mem.NB (k:=q) hm (tk) hlu;rw[←ht]at this;exact this);(refine Jn ?_)
  repeat(refine Jy ?_)
  rw[htbq]
  repeat(refine Jy ?_)
  (refine Jc ?_;refine aA.aZ (spec:=EN (E:=E0 m x.p) ⟨t.tb,x.mb,m⟩ (t.sl (E0 m x.p) e) hC hz rfl hg) (r:=(fun w=>Reads.md (tk) (Reads.any (tk) (uJ x.p) .nil))) (k:=?_);intro s hs;(refine Jn ?_))
  by_cases h1:((t.sl (E0 m x.p) e).look m).st=1
  ·rw[if_pos (hCq.trans h1)]at hsn
   repeat(refine Jy ?_;try first|intro ao cap|intro b)
   apply End.imp (fun w hm=>Mem.GA (told:=fun _=> .nilFunc) (t:=((t.sl (E0 m x.p) e).look m).lay t.tb) hm (tk) (aK) hlu);have hsl:(n7 C (q+1)).length=(n7 C q).length+1:=by rw[hsn];simp
   rw[←hsn,←hsl];refine End.bK hK1 (q+1,us.set q (((t.sl (E0 m x.p) e).look m).lay t.tb),ao,cap) ?_ ?_
   ·exact⟨by dsimp only;omega,hnx⟩
   ·dsimp only;omega
  ·rw[if_neg (fun h=>h1 (hCq.symm.trans h)),eH]at hsn
   repeat(refine Jy ?_)
   apply End.imp (fun w hm=>Mem.GA (told:=fun _=> .nilFunc) (t:=((t.sl (E0 m x.p) e).look m).lay t.tb) hm (tk) (aK) hlu);rw[←hsn];refine End.bK hK1 (q+1,us.set q (((t.sl (E0 m x.p) e).look m).lay t.tb),ao,ac) ?_ ?_
   ·exact⟨by dsimp only;omega,hnx⟩
   ·dsimp only;omega
 ·obtain rfl:q=ts.length:=by omega
  obtain⟨d1,d2⟩:=hl.done h
  repeat(refine Jy ?_)
  refine End.aH ((us,ao,ac):List bW×Option Addr×Nat) (he:=by rfl) (hp:=⟨d1,d2.trans hC'.symm⟩) (hx:=by simp[kG,dX,uI,GB])
structure rB where
 st:Int
 bx:Int
 tr:Int
 oo:Option Addr
 oc:Nat
 out:List Int
instance:Inhabited rB:=⟨⟨0,0,0,none,0,[]⟩⟩
def jE(x:rB):List Value:=[.int .i64 x.st, .int .i64 x.bx, .int .i64 x.tr, .slice x.oo x.out.length x.oc]
instance:bF jE:=⟨fun _=>rfl,by decide,fun a u hu=>by simp[jE]at hu;rcases hu with rfl|rfl|rfl|rfl<;>rfl⟩
def qL(x:rB):Int×Int×Int×List Int:=(x.st,x.bx,x.tr,x.out)
def vG(t:Vm.Tk):Int×Int×Int×List Int:=(t.st,t.bx,t.tr,t.out)
abbrev pT(x:rB):Chunk:=arr x.oo x.out.length x.oc 2 aT x.out
structure jD where
 eo:Option Addr
 ec:Nat
 ends:List rB
 wo:Option Addr
 wc:Nat
 rows:List Rw
 n:Nat
abbrev jD.cells(r:jD):List Value:=[.slice r.eo r.ends.length r.ec, .slice r.wo r.rows.length r.wc, .int .i64 (r.n:Int)]
abbrev jD.mem(r:jD):List Chunk:=[arr r.eo r.ends.length r.ec 46 jE r.ends,aR (r.ends.map pT),arr r.wo r.rows.length r.wc 39 cW r.rows,aR (r.rows.map (gI 2))]
structure jD.Is(r:jD)(c:Vm.Ma):Prop where
 ends:r.ends.map qL=c.ts.map vG
 rows:r.rows.map (·.l)=c.bs.ws
 n:r.n=c.n
theorem l7.one{m:ML}{T:Nat→Int→Option Ver.Shape}{x:rJ}{ts ts0:List bW}{e:dT}{n k:Nat}(h:kN m T x ts0 e n)(hl:l7 m ts0 e k ts)(hk:k<ts0.length):
  ((cM ts0 e n).looked m.aC).ts.getD k default=((((ts.getD k default).sl (E0 m x.p) e).look m).lay (ts.getD k default).tb).tk:=by
 have h1:=((hl.next h hk).at_ k hk).2.2;rw[if_pos (by omega)]at h1;have hlu:k<ts.length:=by rw[hl.len];exact hk
 have e2:(ts.set k ((((ts.getD k default).sl (E0 m x.p) e).look m).lay (ts.getD k default).tb)).getD k default=(((ts.getD k default).sl (E0 m x.p) e).look m).lay (ts.getD k default).tb:=by
  rw[Jd,JS hlu];rfl
 rw[e2]at h1;rw[h1];unfold Vm.Ma.looked;rw[Jd,JU];simp only[cM,JU,Je hk,a8,JZ,Jd]
set_option maxHeartbeats 2000000 in
theorem aHc(m:ML){T:Nat→Int→Option Ver.Shape}(hC:Vm.dF m.aC T)(x:rJ)(ts:List bW)(e:dT)(n:Nat)(h:kN m T x ts e n)(hn:ts.length≤30)(hb30:m.bx.length≤30):
  Fn Tryz.prog 28 #[ptr x.xb] [md m,gX x.p] (j5 m x ts e n) (σ:=List bW×jD) (fun s=>kN m T x s.1 e n∧cM s.1 e n=(cM ts e n).looked m.aC∧s.2.Is ((cM ts e n).looked m.aC))
   (fun s=> .agg s.2.cells.toArray) (fun s=>s.2.mem ++j5 m x s.1 e n):=by
 obtain⟨C,hC'⟩:∃C,C=(cM ts e n).looked m.aC:=⟨_,rfl⟩;rw[←hC'];have htb:x.cH.length=ts.length:=by rw[←h.cH,Jf]
 have hCl:C.ts.length=ts.length:=by rw[hC'];simp[Vm.Ma.looked]
 have hbl:x.p.bs.length=m.bx.length:=by rw[←h.bx.at_,Jf];exact h.bx.len
 have hn2:=h.ok.n;refine JE [ptr x.xb] Tryz.func28 Tryz.ntmps28 fun w S=>?_
 (refine Jn ?_)
 repeat(refine Jy ?_;try intro b)
 obtain⟨wb,rfl⟩:∃x,x=b:=⟨_,rfl⟩;obtain⟨rb,rfl⟩:∃x,x=b:=⟨_,rfl⟩;apply aB.imp (fun w hm=>(hm.bY 46 jE).eX);refine aB.only ((fun z=>aI w S::md m::gX x.p::aD rb [.slice none 0 0, .slice none 0 0, .int .i64 0] 32::aD wb [.slice z.2.2.1 z.1 z.2.2.2.1, .slice none 0 0, .int .i64 (n:Int)] 32::arr z.2.2.1 z.1 z.2.2.2.1 46 jE z.2.2.2.2::aR (z.2.2.2.2.map pT)::j5 m x z.2.1 e n) (0,ts,none,0,[])) (aK) ?_;apply aB.loop (σ:=Nat×List bW×Option Addr×Nat×List rB) (fun z=>z.1≤ts.length∧l7 m ts e z.1 z.2.1∧z.2.2.2.2.length=z.1∧z.2.2.2.2.map qL=(C.ts.take z.1).map vG) (fun z=>[(0,ptr x.xb),(2,ptr rb),(3,ptr wb),(16, .slice x.to x.cH.length x.tc),(17, .int .i64 (x.cH.length:Int)),(18, .int .i64 (z.1:Int))]) (fun z=>aI w S::md m::gX x.p::aD rb [.slice none 0 0, .slice none 0 0, .int .i64 0] 32::aD wb [.slice z.2.2.1 z.1 z.2.2.2.1, .slice none 0 0, .int .i64 (n:Int)] 32::arr z.2.2.1 z.1 z.2.2.2.1 46 jE z.2.2.2.2::aR (z.2.2.2.2.map pT)::j5 m x z.2.1 e n) (fun z=>ts.length-z.1) (0,ts,none,0,[])
 rotate_left
 exact sb;exact aK;intro z hz K1 hK1;(refine Jn ?_)
 rotate_left
 ·exact⟨bP _,l7.zero h,rfl,rfl⟩
 obtain⟨q,us,eo,ec,ends⟩:=z;obtain⟨hq0,hl,he1,he2⟩:=hz;dsimp only at hq0 hl he1 he2 hK1⊢
 by_cases hq:q<ts.length
 ·have hCq:=hl.one h hq;rw[←hC']at hCq;obtain⟨t,ht⟩:∃t,t=us.getD q default:=⟨_,rfl⟩;have hz:=(hl.at_ q hq).2.1.sl (E:=E0 m x.p) h.bx;have hg:=h.kQ hl hq;have hnx:=hl.next h hq;have hlu:q<us.length:=by rw[hl.len];exact hq
  rw[←ht]at hz hg hnx hCq;have htbq:x.cH.getD q default=t.tb:=by
   rw[←hl.cH h,ht,Jd,Jd,JU,Je hlu];rfl
  have hout:t.out.length≤40000:=by
   have h1:=h.ok.looked.out (C.ts.getD q default) (by rw[hC'];exact h.ok.looked.at_ (by rw[←hC',hCl];exact hq));rw[hCq]at h1;have h2:t.out.length≤2*n:=h1;have h3:n≤20000:=hn2;omega
  apply aB.imp (fun w hm=>by have:=Mem.NB (k:=q) hm (tk) hlu;rw[←ht]at this;exact this);(refine Jn ?_)
  repeat(refine Jy ?_)
  rw[htbq]
  repeat(refine Jy ?_)
  (refine Jc ?_;refine aA.aZ (spec:=EN (E:=E0 m x.p) ⟨t.tb,x.mb,m⟩ (t.sl (E0 m x.p) e) hC hz rfl hg) (r:=(fun w=>Reads.md (tk) (Reads.any (tk) (uJ x.p) .nil))) (k:=?_);intro s hs;(refine Jn ?_))
  repeat(refine Jy ?_)
  apply aB.imp (fun w hm=>hm.bY 2 aT);apply aB.draw 23 ([iZ ⟨t.tb,x.mb,m⟩ ((t.sl (E0 m x.p) e).look m),aD wb [.slice eo q ec, .slice none 0 0, .int .i64 (n:Int)] 32]) (by kernel_rfl) 24 rfl;refine JR 0 ?_;refine JR 1 ?_;refine JR 2 ?_;refine JR 3 ?_;refine JR 4 ?_;refine JR 5 ?_;refine JR 6 ?_;refine JR 7 ?_;refine JR 8 ?_;refine JR 9 ?_;refine JR 10 ?_;refine JR 11 ?_;refine JR 12 ?_;refine JR 13 ?_;refine JR 14 ?_;refine JR 15 ?_;refine JR 16 ?_;refine JR 17 ?_;have hout':((t.sl (E0 m x.p) e).look m).out.length≤40000:=hout;(refine JT 18 ?_;refine aA.wH (l2:=t.out) (k:=?_);intro no nc;refine JG ?_);simp only[uD,Jk];refine JR 19 ?_;(refine JT 20 ?_;(refine Jb ?_;intro b);refine JG ?_);(refine JT 21 ?_;refine aA.jL (a:=(⟨((t.sl (E0 m x.p) e).look m).st,((t.sl (E0 m x.p) e).look m).bx,((t.sl (E0 m x.p) e).look m).tr,no,nc,t.out⟩:rB)) (k:=?_);intro ao cap;refine JG ?_;(refine Jn ?_));refine JR 22 ?_;(refine JT 23 ?_;(refine Jw ?_);refine JG ?_);(apply RunT.done;kernel_rfl)
  repeat(refine Jy ?_)
  obtain⟨X,hX⟩:∃X:rB,X=⟨((t.sl (E0 m x.p) e).look m).st,((t.sl (E0 m x.p) e).look m).bx,((t.sl (E0 m x.p) e).look m).tr,no,nc,t.out⟩:=⟨_,rfl⟩;have hXe:qL X=vG (C.ts.getD q default):=by rw[hCq,hX];rfl
  apply End.imp (fun w hm=>Mem.GA (told:=fun _=> .nilFunc) (t:=((t.sl (E0 m x.p) e).look m).lay t.tb) hm (tk) (aK) hlu);apply End.imp (fun w hm=>Mem.A5 (cs:=ends.map pT) (ds:=[pT X]) hm (tk) (by rw[hX];(repeat(first|exact aQ.nil|exact Take.head|apply Take.tail|apply aQ.cons))) (fun c hc=>by simp at hc;subst hc;exact dX));have hmp:ends.map pT ++[pT X]=(ends ++[X]).map pT:=by simp
  rw[hmp,←hX];refine End.bK hK1 (q+1,us.set q (((t.sl (E0 m x.p) e).look m).lay t.tb),ao,cap,ends ++[X]) ?_ ?_
  ·refine⟨by dsimp only;omega,hnx,by simp[he1],?_⟩;have hqC:q<C.ts.length:=by omega
   dsimp only;rw[Jq,he2,Jp hqC,Jq];congr 1;simp only[eG,qE];rw[hXe,Jd,Je hqC];rfl
  ·dsimp only;omega
 ·obtain rfl:q=ts.length:=by omega
  obtain⟨d1,d2⟩:=hl.done h;clear hK1
  repeat(refine Jy ?_)
  apply aB.imp (fun w hm=>(hm.bY 39 cW).eX);refine aB.only ((fun z=>aI w S::gX x.p::aD rb [.slice none 0 0, .slice none 0 0, .int .i64 0] 32::aD wb [.slice eo ts.length ec, .slice z.2.1 z.1 z.2.2.1, .int .i64 (n:Int)] 32::arr eo ts.length ec 46 jE ends::aR (ends.map pT)::arr z.2.1 z.1 z.2.2.1 39 cW z.2.2.2::aR (z.2.2.2.map (gI 2))::j5 m x us e n) (0,none,0,[])) (aK) ?_;apply aB.loop (σ:=Nat×Option Addr×Nat×List Rw) (fun z=>z.1≤m.bx.length∧z.2.2.2.length=z.1∧z.2.2.2.map (·.l)=e.abs.ws.take z.1) (fun z=>[(2,ptr rb),(3,ptr wb),(51, .slice x.p.bo x.p.bs.length x.p.bc),(52, .int .i64 (x.p.bs.length:Int)),(53, .int .i64 (z.1:Int))]) (fun z=>aI w S::gX x.p::aD rb [.slice none 0 0, .slice none 0 0, .int .i64 0] 32::aD wb [.slice eo ts.length ec, .slice z.2.1 z.1 z.2.2.1, .int .i64 (n:Int)] 32::arr eo ts.length ec 46 jE ends::aR (ends.map pT)::arr z.2.1 z.1 z.2.2.1 39 cW z.2.2.2::aR (z.2.2.2.map (gI 2))::j5 m x us e n) (fun z=>m.bx.length-z.1) (0,none,0,[])
  rotate_left
  exact sb;exact aK;intro z hz K1 hK1;(refine Jn ?_)
  rotate_left
  ·exact⟨bP _,rfl,rfl⟩
  obtain⟨q,wo,wc,rows⟩:=z;obtain⟨y1,y2,y3⟩:=hz;dsimp only at y1 y2 y3 hK1⊢
  by_cases hq:q<m.bx.length
  ·obtain⟨s1,u1,r,h1,h2,h3,h4,h5,h6,h7⟩:=h.bx.split hq;have hrn:r.ws.length≤20:=by have:=r.len;have:=h3.n;have:=h3.cap;omega
   apply aB.imp (fun w hm=>Mem.CK hm (tk) h1)
   repeat(refine Jy ?_)
   rw[h5];apply aB.draw 7 ([aD wb [.slice eo ts.length ec, .slice wo q wc, .int .i64 (n:Int)] 32]) (by kernel_rfl) 8 rfl;refine JR 0 ?_;refine JR 1 ?_;refine JR 2 ?_;(refine JT 3 ?_;refine JK (aHa r h3) ?_;intro s hs;refine JG ?_;(refine Jn ?_));obtain⟨no,nc⟩:=s;dsimp only;(refine JT 4 ?_;(refine Jb ?_;intro b);refine JG ?_);(refine JT 5 ?_;refine aA.jL (a:=(⟨no,nc,r.ws⟩:Rw)) (k:=?_);intro ao cap;refine JG ?_;(refine Jn ?_));refine JR 6 ?_;(refine JT 7 ?_;(refine Jw ?_);refine JG ?_);(apply RunT.done;kernel_rfl)
   repeat(refine Jy ?_)
   apply End.imp (fun w hm=>Mem.CJ (p:=x.p) (e:=e) (s:=s1) (u:=u1) (r:=r) hm (aK));rw[←h1];apply End.imp (fun w hm=>Mem.A5 (cs:=rows.map (gI 2)) (ds:=[gI 2 ⟨no,nc,r.ws⟩]) hm (tk) (aK) (fun c hc=>by simp at hc;subst hc;exact dX));have hmp:rows.map (gI 2) ++[gI 2 ⟨no,nc,r.ws⟩]=(rows ++[(⟨no,nc,r.ws⟩:Rw)]).map (gI 2):=by simp
   rw[hmp];refine End.bK hK1 (q+1,ao,cap,rows ++[⟨no,nc,r.ws⟩]) ?_ ?_
   ·refine⟨by dsimp only;omega,by simp[y2],?_⟩;have hqe:q<e.abs.ws.length:=by show q<(e.rs.map Ring.ws).length;rw[Jf];have h9:e.rs.length=m.bx.length:=h.bx.len;omega
    dsimp only;rw[Jq,y3,Jp hqe];congr 1;simp only[eG,qE];rw[←h6,Jd,Je hqe];rfl
   ·dsimp only;omega
  ·obtain rfl:q=m.bx.length:=by omega
   clear hK1
   repeat(refine Jy ?_)
   obtain⟨R,hR⟩:∃R:jD,R=⟨eo,ec,ends,wo,wc,rows,n⟩:=⟨_,rfl⟩;refine End.eK ((us,R):List bW×jD) (he:=by rw[hR];simp only[jD.cells,he1,y2]) (hF:=by(subst hR;simp only[jD.mem,he1,y2,v8,Jk];exact aK)) (hp:=?_) (hx:=by simp[kG,dX,jT,uI,GB]);subst hR;have hel:e.abs.ws.length=m.bx.length:=by show(e.rs.map Ring.ws).length=_;rw[Jf];exact h.bx.len
   refine⟨d1,d2.trans hC'.symm,⟨?_,?_,?_⟩⟩
   ·dsimp only;rw[he2,pF (by omega)]
   ·dsimp only;rw[y3,pF (by omega),hC'];rfl
   ·dsimp only;rw[hC'];rfl
end
theorem aBI{R pre:List Chunk}(hR:∀c∈R,c.bB=false):eQ (R ++pre)=eQ pre:=by
 funext b
 simp only[eQ,eq_iff_iff];constructor
 ·rintro⟨c,hc,hx,hb⟩;rcases dH.1 hc with hc|hc
  ·rw[hR c hc]at hx;cases hx
  ·exact⟨c,hc,hx,hb⟩
 ·rintro⟨c,hc,hx,hb⟩;exact⟨c,sK _ hc,hx,hb⟩
theorem Fn.conv{P:Program}{f:FuncId}{args:Array Value}{σ τ:Type}{R pre pre' F:List Chunk}{post:σ→Prop}{val:σ→Value}{mem:σ→List Chunk}{post':τ→Prop}{val':τ→Value}{mem':τ→List Chunk}(hR:∀c∈R,c.bB=false)
  (spec:Fn P f args R pre' post' val' mem') (hin:∀w G,Mem w (pre ++G)→Mem w (pre' ++(F ++G)))
  (hout:∀w G x,post' x→Mem w (mem' x ++(F ++G))→∃y,post y∧val' x=val y∧(∀c∈mem y,c.bB=true)∧Mem w (mem y ++G)):Fn P f args R pre post val mem:=by
 intro w hm;have h0:=hm.since;rw[aBI hR]at h0;have h1:Mem w (pre ++(R ++[aI w (eQ pre)])):=by
  refine h0.perm ?_;rw[←Jt];exact(pH (l₁:=[aI w (eQ pre)]) (l₂:=R ++pre)).trans (List.Perm.append_right _ pH)
 have h2:=hin w _ h1;have h3:Mem w (R ++pre'):=by
  refine Mem.left (M:=F ++[aI w (eQ pre)]) (h2.perm ?_);have p1:(pre' ++(F ++(R ++[aI w (eQ pre)]))).Perm (pre' ++(R ++(F ++[aI w (eQ pre)]))):=List.Perm.append_left _ (AQ _ _ _);have p2:(pre' ++(R ++(F ++[aI w (eQ pre)]))).Perm (R ++(pre' ++(F ++[aI w (eQ pre)]))):=AQ _ _ _;have:=p1.trans p2;rwa [←Jt R]at this
 refine(spec w h3).mono ?_;rintro e w' ⟨x,hp,rfl,hx,hM⟩;have h4:=h2.frame hM hx;obtain⟨y,g1,g2,g3,g4⟩:=hout w' _ x hp h4;refine⟨y,g1,by rw[g2],g3,?_⟩;refine Mem.left (M:=R) (g4.perm ?_);have p1:(mem y ++(R ++[aI w (eQ pre)])).Perm (mem y ++([aI w (eQ pre)] ++R)):=List.Perm.append_left _ pH;refine p1.trans ?_;have p2:(mem y ++([aI w (eQ pre)] ++R)).Perm ([aI w (eQ pre)] ++(mem y ++R)):=AQ _ _ _;exact p2
theorem aCi(l:List bW)(k:Nat)(t:bW):(l.set k t).map bW.tk=(l.map bW.tk).set k t.tk:=List.map_set
abbrev CP(p:l0)(told:Bool):Nat→Value:=fun k=>jH (toldOf p (Vm.e7 told k))
abbrev EU(m:ML)(x:rJ)(told:Bool)(ts:List bW)(e:dT)(n:Nat):List Chunk:=[aD x.xb (j4 x.to x.cH.length x.tc x.p.bo x.p.bs.length x.p.bc n) 160,aD x.mb (fN m) 26,arr x.to x.cH.length x.tc 95 gH x.cH,mW x.p e,o7 x.mb (sT x.p.bo x.p.bs.length x.p.bc) (CP x.p told) ts]
set_option maxHeartbeats 1000000 in
theorem aEE(m:ML){T:Nat→Int→Option Ver.Shape}(hC:Vm.dF m.aC T)(x:rJ)(ts:List bW)(e:dT)(n:Nat)(h:kN m T x ts e n)(hn:ts.length≤30)(told:Bool)(hK:∀k,k<ts.length→OA x.p (Vm.e7 told k))(tk q:Int):
  Fn Tryz.prog 26 #[ptr x.xb, .agg #[.int .i64 tk, .int .i64 q]] [md m,gX x.p] (EU m x told ts e n) (σ:=List bW×dT)
   (fun s=>kN m T x s.1 s.2 (Vm.pick m.aC told (cM ts e n) (tk,q)).2.n∧s.1.length=ts.length∧cM s.1 s.2 (Vm.pick m.aC told (cM ts e n) (tk,q)).2.n=(Vm.pick m.aC told (cM ts e n) (tk,q)).2)
   (fun _=> .agg #[.int .i64 (Vm.pick m.aC told (cM ts e n) (tk,q)).1.1, .int .i64 ((Vm.pick m.aC told (cM ts e n) (tk,q)).1.2:Int)])
   (fun s=>EU m x told s.1 s.2 (Vm.pick m.aC told (cM ts e n) (tk,q)).2.n):=by
 have htb:x.cH.length=ts.length:=by rw[←h.cH,Jf]
 have hel:∀(us:List bW) (e':dT) (n':Nat),∀c∈EU m x told us e' n',c.bB=true:=fun us e' n'=>by simp[kG,dX,uI,GB]
 by_cases h1:tk<0∨(ts.length:Int)≤tk
 ·have hp:Vm.pick m.aC told (cM ts e n) (tk,q)=((3,0),cM ts e n):=by
   unfold Vm.pick;rw[if_pos (by show tk<0∨((ts.map bW.tk).length:Int)≤tk;rw[Jf];exact h1)]
  rw[hp];refine Fn.conv (F:=(EU m x told ts e n).tail) (by simp[m9,fP]) ?_ ?_ ?_ (pre':=[aD x.xb (j4 x.to x.cH.length x.tc x.p.bo x.p.bs.length x.p.bc n) 160]) (σ:=List bW×dT) (τ:=Unit) (post':=fun _=>True) (val':=fun _=> .agg #[.int .i64 3, .int .i64 0]) (mem':=fun _=>[aD x.xb (j4 x.to x.cH.length x.tc x.p.bo x.p.bs.length x.p.bc n) 160])
  ·intro w hm;have:=aEG x.xb x.to x.tc x.cH.length x.p.bo x.p.bs.length x.p.bc n tk q (by omega) w (Mem.right (L:=[md m,gX x.p]) hm);exact this
  ·intro w G hm;exact hm
  ·intro w G s _ hm;exact⟨(ts,e),⟨h,rfl,rfl⟩,rfl,hel _ _ _,hm⟩
 ·obtain⟨k,rfl⟩:=JI (show 0≤tk by omega);have hk:k<ts.length:=by omega
  obtain⟨t,ht⟩:∃t,t=ts.getD k default:=⟨_,rfl⟩
  let E:=O1 m.aC x.p (Vm.e7 told k) (hK k hk)
  have htm:t∈ts:=by rw[ht];exact NC hk
  have hcm:t.tk∈(cM ts e n).ts:=fD.2 ⟨t,htm,rfl⟩;have hz:=(h.wf t htm).sl (E:=E) h.bx;have hg:Vm.Good m.aC T (Vm.KB m.aC) (t.sl (E) e).two:=h.ok.kQ _ hcm;have ho:(t.sl (E) e).out.length≤2*n:=h.ok.out _ hcm;have hat:(cM ts e n).at_ k=(t.sl (E) e).two:=by
   show((ts.map bW.tk).getD k default,e.abs)=(t.tk,e.abs);rw[ht,Jd,JU,Je hk,Jd,Je hk];rfl
  have htbk:x.cH.getD k 0=t.tb:=by
   rw[←h.cH,ht,Jd,Jd,JU,Je hk];rfl
  have hsp:=aEJ (E:=E) ⟨t.tb,x.mb,m⟩ x.xb x.to x.tc x.cH x.p.bo x.p.bs.length x.p.bc n k q (by omega) htbk (t.sl (E) e) hC (Vm.O4 m.aC (Vm.e7 told k)) hz rfl hg h.ok.n ho h.ok.log (by omega);obtain⟨R,hR⟩:∃R,R=Vm.j8 (Vm.bJ m.aC (Vm.e7 told k)) m.aC n q (t.sl (E) e).two:=⟨_,rfl⟩;have hsp':Fn Tryz.prog 26 #[ptr x.xb, .agg #[.int .i64 (k:Int), .int .i64 q]] [md m,gX x.p] (aD x.xb (j4 x.to x.cH.length x.tc x.p.bo x.p.bs.length x.p.bc n) 160::arr x.to x.cH.length x.tc 95 gH x.cH::TM ⟨t.tb,x.mb,m⟩ (t.sl (E) e)) (σ:=SL (E)) (iN (t.sl (E) e) R.2) (fun _=> .agg #[.int .i64 R.1.1, .int .i64 (R.1.2:Int)]) (fun z'=>aD x.xb (j4 x.to x.cH.length x.tc x.p.bo x.p.bs.length x.p.bc (n+R.1.2)) 160::arr x.to x.cH.length x.tc 95 gH x.cH::TM ⟨t.tb,x.mb,m⟩ z'):=by rw[hR];exact hsp
  have hp:Vm.pick m.aC told (cM ts e n) ((k:Int),q)=(R.1,⟨(ts.map bW.tk).set k R.2.1,R.2.2,n+R.1.2⟩):=by
   unfold Vm.pick;rw[if_neg (by show¬((k:Int)<0∨((ts.map bW.tk).length:Int)≤(k:Int));rw[Jf];omega)];show _=_;rw[hR,←hat];rfl
  have hok':=h.ok.pick hC told ((k:Int),q);rw[hp]at hok'⊢;refine Fn.conv (F:=[GC x.mb (sT x.p.bo x.p.bs.length x.p.bc) (CP x.p told) ts k]) (by simp[m9,fP]) hsp' ?_ ?_
  ·intro w G hm;have h2:=Mem.NB (k:=k) hm (show Take (o7 x.mb (sT x.p.bo x.p.bs.length x.p.bc) (CP x.p told) ts) _ _ from .tail (.tail (.tail (.tail .head)))) hk;rw[←ht]at h2;exact h2.aS (aK)
  ·intro w G z' hz' hm;obtain⟨w1,w2⟩:=hz';have htk:(z'.lay t.tb).tk=R.2.1:=congrArg (·.1) w2;have hbs:dT.abs z'.e=R.2.2:=congrArg (·.2) w2;have hA:cM (ts.set k (z'.lay t.tb)) z'.e (n+R.1.2)=⟨(ts.map bW.tk).set k R.2.1,R.2.2,n+R.1.2⟩:=by
    simp only[cM,aCi,htk,hbs]
   refine⟨(ts.set k (z'.lay t.tb),z'.e),⟨⟨?_,fun y hy=>?_,w1.env,by rw[hA];exact hok'⟩,by simp,hA⟩,rfl,hel _ _ _,?_⟩
   ·dsimp only;rw[List.map_set,h.cH];refine mT (by simp) fun j h1 h2=>?_
    rw[tZ]
    split
    ·rename_i hkj;subst hkj
     rw[Jd,Je h2]at htbk;exact htbk.symm
    ·rfl
   ·rcases tU hy with hy|rfl
    ·exact h.wf y hy
    ·exact w1.lay _
   ·have h3:=Mem.GA (told:=CP x.p told) (t:=z'.lay t.tb) hm (show Take (GC x.mb (sT x.p.bo x.p.bs.length x.p.bc) (CP x.p told) ts k) _ _ from tk) (aK) hk;exact h3.aS (aK)
theorem TZ(m:ML){T:Nat→Int→Option Ver.Shape}(hC:Vm.dF m.aC T)(x:rJ)(ts:List bW)(e:dT)(n:Nat)(h:kN m T x ts e n)(hn:ts.length≤30)(tk q:Int):
  Fn Tryz.prog 26 #[ptr x.xb, .agg #[.int .i64 tk, .int .i64 q]] [md m,gX x.p] (j5 m x ts e n) (σ:=List bW×dT)
   (fun s=>kN m T x s.1 s.2 (Vm.pick m.aC false (cM ts e n) (tk,q)).2.n∧s.1.length=ts.length∧cM s.1 s.2 (Vm.pick m.aC false (cM ts e n) (tk,q)).2.n=(Vm.pick m.aC false (cM ts e n) (tk,q)).2)
   (fun _=> .agg #[.int .i64 (Vm.pick m.aC false (cM ts e n) (tk,q)).1.1, .int .i64 ((Vm.pick m.aC false (cM ts e n) (tk,q)).1.2:Int)])
   (fun s=>j5 m x s.1 s.2 (Vm.pick m.aC false (cM ts e n) (tk,q)).2.n):=aEE m hC x ts e n h hn false (fun _ _=>trivial) tk q
end Vw
section
section
variable{P:Program} [eP P]{N:Nd}{E:Env}{L L' F:List Chunk}{σ:Type}{fn:Func}{post:σ→Prop}{val:σ→Value}{mem:σ→List Chunk}{w0:World}{S:Nat→Prop}
theorem Still.QK{x:Operand}{d:Option Tmp}{T ft ty:TypeId}{pos:String}{aft:Array Edge}{g:Option (Nat×Bool)}{fs:List (Nat×TypeId)}{s' b' f off s2 b2:Nat}{z' z2:List Value}{k:IntKind}{cs:Array Value}{v:Value}(hx:ev E x=Option.some (.agg cs))(ht:aW P T=Option.some ⟨.struct fs,s',b',z'⟩)
  (hf:fs[f]?=Option.some (off,ft)) (hj:aW P ft=Option.some ⟨.int k,s2,b2,z2⟩) (hv:cs[off]?=Option.some v):Still P N ⟨d, .field T x f,ty,pos,aft,g⟩ E L v:=fun A w hs _=>by
 obtain⟨l,h1,h2⟩:=(b7 ht).struct;rw[←h2,JU]at hf;have h3:=(b7 hj).int
 cases hlf:l[f]? with
 |none=>rw[Array.getElem?_toList,hlf]at hf;cases hf
 |some fl=>
  rw[Array.getElem?_toList,hlf]at hf;simp only[a8,tY,wD]at hf;obtain⟨rfl,rfl⟩:=hf;simp[execOp,hs.ev hx,Instr.field,run_underlying h1,hlf,part,isAgg,run_underlying h3,asAgg,hv]
end
end
namespace Vw
open Go.RowKit Img
section
attribute [local irreducible] aE aB End aA Still aM aP RunT Fn aO
section
def FH(p:Int×Int):List Value:=[.int .i64 p.1, .int .i64 p.2]
instance:bF FH:=⟨fun _=>rfl,by decide,fun a u hu=>by simp[FH]at hu;rcases hu with rfl|rfl<;>rfl⟩
def IA(d:Int×Nat):List Value:=[.int .i64 d.1, .int .i64 (d.2:Int)]
instance:bF IA:=⟨fun _=>rfl,by decide,fun a u hu=>by simp[IA]at hu;rcases hu with rfl|rfl<;>rfl⟩
attribute [local irreducible] Ver.verify
theorem aHe(m:ML)(hwf:m.Wf)(n:Nat):Fn Tryz.prog 24 #[m.val, .int .i64 (n:Int)] [md m] [] (σ:=Unit) (fun _=>True) (fun _=> .int .i64 (Vm.lZ m.aC n)) (fun _=>[]):=by
 refine Fn.enter (args:=[m.val, .int .i64 (n:Int)]) Tryz.func24 rfl _ Tryz.ntmps24 rfl (by simp[m9]) (fun w S=>?_);(refine Jn ?_)
 repeat(refine Jy ?_;try intro b)
 (refine JQ (XH m hwf) ?_;intro s hs;(refine Jn ?_));obtain⟨V,hV⟩:∃V,V=Ver.verify m.aC:=⟨_,rfl⟩;have hW:Vm.lZ m.aC n=if V.err≠0 then V.err else if 400<n then 5 else 0:=by unfold Vm.lZ;rw[←hV]
 rw[hW,←hV]
 by_cases h1:V.err=0
 ·rw[if_neg (fun h=>h h1)]
  by_cases h2:400<n
  ·rw[if_pos h2]
   repeat(refine Jy ?_;try intro b)
   (refine End.aH (()) (he:=Jv) (hp:=?_));trivial
  ·rw[if_neg h2]
   repeat(refine Jy ?_;try intro b)
   (refine End.aH (()) (he:=Jv) (hp:=?_));trivial
 ·rw[if_pos h1]
  repeat(refine Jy ?_;try intro b)
  (refine End.aH (()) (he:=Jv) (hp:=?_));trivial
end
theorem Ring.aHf{r:Ring}(h:r.n=0):r.ws=[]:=pE (by rw[r.len,h])
def jS.pl(s:jS)(mb:Nat):rJ:=⟨s.xb,mb,s.to,s.tc,s.ts.map (·.tb),⟨s.bo,s.bc,s.rs.map (·.bb),none⟩⟩
def jS.be(s:jS):dT:=⟨s.rs,none,0,[]⟩
theorem Y8{w:World}{L F:List Chunk}{m:ML}{mb:Nat}(s:jS){n:Nat}(hn:n=0)(t:aQ (jS.mem m mb s) L F)(h:Mem w L):Mem w (gX (s.pl mb).p::(j5 m (s.pl mb) s.ts s.be n ++F)):=by
 subst hn;have h1:Mem w (jS.mem m mb s ++F):=h.aS t;have h2:=aE9 (α:=Nat) (ao:=s.bo) (n:=s.rs.length) (cap:=s.bc) (e:=161) (f:=gH) (l:=s.rs.map (·.bb)) (L:=jS.mem m mb s ++F) (by exact .cons (.tail (.tail (.tail .head))) .nil) h1;have h3:Mem w (aR []::_):=h2.eX;have h4:=Mem.pack (cs:=[aR (s.rs.flatMap dB),aR []]) (L:=_) (h3.aS (by exact .cons (.tail (.tail (.tail (.tail (.tail .head))))) (.cons .head .nil))) (fun c hc=>by simp at hc;rcases hc with rfl|rfl<;>exact jT);have e1:(s.pl mb).cH.length=s.ts.length:=by simp[jS.pl]
 have e2:(s.pl mb).p.bs.length=s.rs.length:=by simp[jS.pl]
 have h5:Mem w (mW (s.pl mb).p s.be::rd s.bo s.rs.length s.bc gH (s.rs.map (·.bb))::aD s.xb (j4 s.to s.ts.length s.tc s.bo s.rs.length s.bc 0) 160::aD mb (fN m) 26::arr s.to s.ts.length s.tc 95 gH (s.ts.map (·.tb))::o7 mb (sT s.bo s.rs.length s.bc) (fun _=> .nilFunc) s.ts::F):=h4;unfold j5 gX;rw[e1,e2];exact h5.aS (by exact .cons (.tail .head) (.cons (.tail .head) (.cons (.tail .head) (.cons (.tail .head) (.cons .head (.cons .head .nil))))))
theorem Y6{m:ML}{T:Nat→Int→Option Ver.Shape}(hC:Vm.dF m.aC T){s:jS}(h:s.Ok m)(mb:Nat):kN m T (s.pl mb) s.ts s.be 0∧cM s.ts s.be 0=Vm.Ma.init m.aC:=by
 have hws:s.be.abs.ws=List.replicate m.aC.boxes.length []:=by
  show s.rs.map Ring.ws=_;refine mT (by simp[h.FO]) fun j h1 h2=>?_
  simp only[Jf]at h1;have:=(h.ring j (by rw[←h.FO];exact h1)).2.2;rw[Jd,Je h1,JZ]at this;simp[Ring.aHf this]
 have hA:cM s.ts s.be 0=Vm.Ma.init m.aC:=by
  unfold Vm.Ma.init;simp only[cM,Vm.Ma.mk.injEq,and_true];refine⟨h.ts,?_⟩;have:s.be.abs=⟨s.be.abs.ws,[]⟩:=rfl;rw[this,hws]
 refine⟨⟨rfl,h.wf,⟨rfl,h.FO,fun r hr=>?_,fun b hb=>(h.ring b hb).2.1⟩,by rw[hA];exact Vm.Ma.Ok.init hC⟩,hA⟩;obtain⟨j,hj,rfl⟩:=mS hr;have:=(h.ring j (by rw[←h.FO];exact hj)).1;rw[Jd,Je (show j<s.rs.length from hj),JZ]at this;exact this
theorem Y7{m:ML}{s:jS}(h:s.Ok m)(h30:m.us.length≤30):s.ts.length≤30:=by
 have h1:=congrArg List.length h.ts;simp only[Jf]at h1;rw[h1,zS];have:=zT m m.us.length;omega
end
end Vw
namespace Vm
theorem T3(M:ImgM.aG)(told:Bool):∀(a b:List (Int×Int)) (c:Ma),fW M told (a ++b) c=((fW M told a c).1 ++(fW M told b (fW M told a c).2).1,(fW M told b (fW M told a c).2).2)
 |[],b,c=>by simp[fW]
 |p::a,b,c=>by simp only[v8,fW];rw[T3 M told a b]
theorem aEK(M:ImgM.aG)(told:Bool)(p:Int×Int)(c:Ma):fW M told [p] c=([(pick M told c p).1],(pick M told c p).2):=by simp[fW]
theorem aEL(M:ImgM.aG)(told:Bool)(l:List (Int×Int))(c:Ma)(k:Nat)(hk:k<l.length):fW M told (l.take (k+1)) c=((fW M told (l.take k) c).1 ++[(pick M told (fW M told (l.take k) c).2 (l.getD k default)).1],(pick M told (fW M told (l.take k) c).2 (l.getD k default)).2):=by
 rw[Jp hk,T3,aEK,Jd,Je hk];rfl
theorem T4(M:ImgM.aG)(told:Bool):∀(l:List (Int×Int)) (c:Ma),(fW M told l c).1.length=l.length
 |[],c=>rfl
 |p::l,c=>by simp only[fW,JW];rw[T4]
end Vm
namespace Vw
open Go.RowKit Img
section
attribute [local irreducible] aE aB End aA Still aM aP RunT Fn aO
structure x3 where
 o:Option Addr
 c:Nat
 l:List (Int×Int)
abbrev x3.val(p:x3):Value:= .slice p.o p.l.length p.c
abbrev FI(p:x3):Chunk:=rd p.o p.l.length p.c FH p.l
structure qH where
 w:jD
 o:Option Addr
 c:Nat
 l:List (Int×Nat)
abbrev qH.zero:qH:=⟨⟨none,0,[],none,0,[],0⟩,none,0,[]⟩
structure qH.Is(m:ML)(ps:List (Int×Int))(r:qH):Prop where
 w:r.w.Is ((Vm.fW m.aC false ps (Vm.Ma.init m.aC)).2.looked m.aC)
 l:r.l=(Vm.fW m.aC false ps (Vm.Ma.init m.aC)).1
abbrev qH.mem(r:qH):List Chunk:=arr r.o r.l.length r.c 82 IA r.l::r.w.mem
theorem YK{M:ImgM.aG}{n:Nat}(h:Vm.lZ M n=0):Ver.verify M= .ok∧n≤400:=by
 unfold Vm.lZ at h
 by_cases h1:(Ver.verify M).err≠0
 ·rw[if_pos h1]at h;exact absurd h h1
 ·rw[if_neg h1]at h;refine⟨Ver.NX (tW.1 h1),?_⟩
  by_cases h2:400<n
  ·rw[if_pos h2]at h;cases h
  ·exact Nat.le_of_not_lt h2
attribute [local irreducible] Ver.verify Vm.lZ Vm.fW
theorem Z2{m:ML}(h:Ver.verify m.aC= .ok)(b:Nat)(hb:b<m.bx.length):1≤(m.bx.getD b default).2∧(m.bx.getD b default).2≤20:=by
 have:=(Ver.AG.1 h).form.boxes (m.bx.getD b default) (by rw[Jd,Je hb];exact fB _);exact this.2
def jM(m:ML)(ps:List (Int×Int))(k:Nat):List (Int×Nat)×Vm.Ma:=Vm.fW m.aC false (ps.take k) (Vm.Ma.init m.aC)
theorem aAB(m:ML)(ps:List (Int×Int)):jM m ps 0=([],Vm.Ma.init m.aC):=by unfold jM Vm.fW;rfl
theorem O9(m:ML)(ps:List (Int×Int)){k:Nat}(hk:k<ps.length):jM m ps (k+1)=((jM m ps k).1 ++[(Vm.pick m.aC false (jM m ps k).2 (ps.getD k default)).1],(Vm.pick m.aC false (jM m ps k).2 (ps.getD k default)).2):=Vm.aEL m.aC false ps _ k hk
theorem aAA(m:ML)(ps:List (Int×Int)):jM m ps ps.length=Vm.fW m.aC false ps (Vm.Ma.init m.aC):=by unfold jM;rw[l4]
end
end Vw
end Go.Proofs.YtofckcabpchcmaaGreatDoor
