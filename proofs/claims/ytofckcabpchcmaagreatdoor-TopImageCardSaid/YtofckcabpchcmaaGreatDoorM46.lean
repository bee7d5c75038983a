/- A unit that gen writes is right. Plain Lean. -/
import Derived.Test.YtofckcabpchcmaaGreatDoorM45
import Derived.Laws.BitsLemmas
import Derived.IntWalk
set_option linter.unusedVariables false
set_option linter.unusedSimpArgs false
set_option linter.unusedSectionVars false
set_option maxRecDepth 100000
namespace Go.Proofs.YtofckcabpchcmaaGreatDoor
namespace Fr
open ImgM Ver
theorem VJ{P:List Df}:∀(ps:List Pm) (w:Wr) (c:List (aH×Ty)) (q:List (aH×Nat)),w.blocks=[q]→iJ P w.locals c q→
  (ps.foldl (fun w p=>w.gK p.name (bO P p.type)) w).locals=w.locals ++ps.map (fun p=>bO P p.type)∧(ps.foldl (fun w p=>w.gK p.name (bO P p.type)) w).code=w.code∧
   ∃q',(ps.foldl (fun w p=>w.gK p.name (bO P p.type)) w).blocks=[q']∧iJ P (ps.foldl (fun w p=>w.gK p.name (bO P p.type)) w).locals (c ++ps.map fun p=>(p.name,bare p.type)) q'
 |[],w,c,q,hb,hc=>⟨aW,rfl,q,hb,by simpa using hc⟩
 |p::ps,w,c,q,hb,hc=>by
  have hb1:(w.gK p.name (bO P p.type)).blocks=[q ++[(p.name,w.locals.length)]]:=by
   unfold Wr.gK;dsimp only;rw[hb]
  have hc1:iJ P (w.gK p.name (bO P p.type)).locals (c ++[(p.name,bare p.type)]) (q ++[(p.name,w.locals.length)]):=
   iJ.snoc (by show _<(w.locals ++[_]).length;simp) (by show(w.locals ++[bO P p.type]).getD w.locals.length 0=_;rw[m5,Jd];simp) (hc.mono _)
  obtain⟨h1,h2,q',h3,h4⟩:=VJ ps _ _ _ hb1 hc1;refine⟨?_,h2,q',h3,?_⟩
  ·rw[zA,h1,fI];show(w.locals ++[_]) ++_=_;rw[Jt];rfl
  ·rw[zA,fI];rw[Jt]at h4;exact h4
theorem iJ.vis{P:List Df}{lo:List Int}{H:List Bool}(hH:∀k,k<lo.length→H.getD k false=true):∀{b:List (aH×Ty)} {c:List (aH×Nat)},iJ P lo b c→∀p∈c,H.getD p.2 false=true
 |[],[],_,p,hp=>by cases hp
 |_::_,_::_,h,p,hp=>by
  rcases cY.1 hp with rfl|hp
  ·exact hH _ h.2.1
  ·exact iJ.vis hH h.2.2.2 p hp
 |[],_::_,h,_,_=>h.elim
 |_::_,[],h,_,_=>h.elim
theorem GL{P:List Df}{t:Ty}(h:gA P t=true):gA P (bare t)=true:=by
 by_cases hp:cV t=true
 ·exact AS (AR hp)
 ·unfold bare;rw[if_neg hp];exact h
abbrev uP(P:List Df)(d:Df):Int:=if d.kind=3 then bO P d.aP else 0
abbrev mZ(d:Df):List Pm:=if d.kind=4 then []else d.params
theorem unit_eq(P:List Df)(d:Df):fH P d=⟨d.kind,if d.kind=4 then 0 else(d.params.length:Int),(wB P d).locals,if d.kind=4 then 0 else bO P d.type,uP P d,
  (wB P d).code ++(if d.kind=2 then [⟨if bO P d.type=2 then 2 else 1,0,0⟩,⟨24,0,0⟩]else [⟨25,0,0⟩])⟩:=by
 unfold fH;dsimp only
 by_cases h:d.kind=2
 ·rw[if_pos h,if_neg (show¬d.kind=4 by omega)];simp[Wr.put,h,wB]
 ·rw[if_neg h];simp[Wr.put,h,wB]
structure BZ(P:List Df):Prop where
 nd:(P.map (·.name)).Nodup
 gS:∀d∈P,gR P d=true
 aAG:∀d∈P,mC P d=true
 ok:∀d∈P,D3 d
theorem BZ.kinds{P:List Df}(h:BZ P):tF P:=⟨fun d hd=>(h.ok d hd).type,fun d hd=>(h.ok d hd).aP,fun d hd hk=>((h.ok d hd).ps hk).2⟩
section
variable{P:List Df}(hP:BZ P){d:Df}(hd:d∈P)(h1:d.kind≠1)
include hP hd h1
theorem KQ:wX P d (uP P d):=⟨hP.nd,hP.gS,hd,fun h=>if_pos h⟩
theorem YG:∃w0:Wr,w0=(mZ d).foldl (fun w p=>w.gK p.name (bO P p.type)) ⟨[],[],[[]]⟩∧w0.locals=(mZ d).map (fun p=>bO P p.type)∧w0.code=[]∧
  cX P w0.locals [(mZ d).map fun p=>(p.name,bare p.type)] w0.blocks∧gV P [(mZ d).map fun p=>(p.name,bare p.type)]∧(∀b∈[(mZ d).map fun p=>(p.name,bare p.type)],∀p∈b,Kd p.2)∧∀p∈mZ d,gA P p.type=true∧Kd p.type:=by
 obtain⟨h2,h3,q',h4,h5⟩:=VJ (P:=P) (mZ d) ⟨[],[],[[]]⟩ [] [] rfl trivial;have hk:=(hP.ok d hd).kind;have hps:∀p∈mZ d,gA P p.type=true∧Kd p.type:=fun p hp=>by
  by_cases h:d.kind=4
  ·unfold mZ at hp;rw[if_pos h]at hp;cases hp
  ·unfold mZ at hp;rw[if_neg h]at hp;exact⟨(FF (hP.gS d hd) aA).2 p hp,((hP.ok d hd).ps aA).2 p hp⟩
 refine⟨_,rfl,by rw[h2];rfl,h3,by rw[h4];exact⟨h5,trivial⟩,fun b hb p hp=>?_,fun b hb p hp=>?_,hps⟩
 ·rw[dY.1 hb]at hp;obtain⟨x,hx,rfl⟩:=eY.1 hp;exact GL (hps x hx).1
 ·rw[dY.1 hb]at hp;obtain⟨x,hx,rfl⟩:=eY.1 hp;unfold bare
  split
  ·exact(hps x hx).2
  ·exact(hps x hx).2
theorem aHo(h4:d.kind≠4):(fH P d).locals.take (fH P d).params.toNat=d.params.map fun p=>bO P p.type:=by
 obtain⟨w0,e0,e1, -⟩:=YG hP hd h1;rw[unit_eq];dsimp only;rw[if_neg h4,Jj];obtain⟨⟨r,hr⟩, -⟩:=uU (P:=P) (tk:=uP P d) d.body w0.open_;have hps:mZ d=d.params:=if_neg h4;have:(wB P d).locals=(d.params.map fun p=>bO P p.type) ++r:=by
  show(bZ P (uP P d) d.body ((mZ d).foldl (fun(w:Wr) p=>w.gK p.name (bO P p.type)) (⟨[],[],[[]]⟩:Wr)).open_).locals=_;rw[←e0,hr];show w0.locals ++r=_;rw[e1,hps]
 rw[this];exact List.take_left' aW
structure PB(M:aL)(u:bM)(U:Us):Prop where
 cert:∃τ,Cert M u τ
 code:∀i∈u.code,QI P M u U i∧eV M u i=0
 locals:∀t∈u.locals,rG M t
 pl:u.params.toNat≤u.locals.length
 one:1≤u.code.length
theorem HJ{M:aL}(hM:BX P M):PB (P:=P) M (fH P d) (cD d.body):=by
 obtain⟨w0,e0,e1,e2,e3,e4,e5,e6⟩:=YG hP hd h1;have hk:=(hP.ok d hd).kind;obtain⟨c,c', -,hb⟩:=(hP.ok d hd).body h1;have hbody:=hP.aAG d hd;unfold mC at hbody;rw[decide_eq_false h1,Bool.false_or]at hbody;have hsc:(if d.kind=4 then []else d.params.map fun p=>(p.name,bare p.type))=(mZ d).map fun p=>(p.name,bare p.type):=by
  unfold mZ
  split<;>rfl
 rw[hsc]at hbody;obtain⟨B',hB'⟩:=lK.1 hbody;obtain⟨u,hu⟩:∃u,u=fH P d:=⟨_,rfl⟩;have hu2:=hu.trans (unit_eq P d);have hwB:wB P d=(bZ P (uP P d) d.body w0.open_).close:=by rw[e0]
 obtain⟨⟨r,hr⟩, -⟩:=uU (P:=P) (tk:=uP P d) d.body w0.open_;have hlo:u.locals=(bZ P (uP P d) d.body w0.open_).locals:=by rw[hu2];show(wB P d).locals=_;rw[hwB];rfl
 have hlo2:u.locals=(mZ d).map (fun p=>bO P p.type) ++r:=by rw[hlo,hr];show w0.locals ++r=_;rw[e1]
 have hpa:u.params.toNat=(mZ d).length:=by
  rw[hu2];dsimp only;unfold mZ
  split
  ·rfl
  ·exact Jj _
 have hpl:u.params.toNat≤u.locals.length:=by rw[hpa,hlo2];simp
 have hkind:u.kind=d.kind:=by rw[hu2]
 have hres:d.kind≠4→u.result=bO P d.type:=fun h=>by rw[hu2];exact if_neg h
 have hH:(gJ u).length=u.locals.length:=by unfold gJ;simp;omega
 have hvis:jY w0.open_.blocks (gJ u):=by
  have:∀k,k<w0.locals.length→(gJ u).getD k false=true:=fun k hk=>by
   unfold gJ;rw[sN (by rw[List.length_replicate,hpa];rw[e1,Jf]at hk;exact hk),Jd,List.getElem?_replicate,if_pos (by rw[hpa];rw[e1,Jf]at hk;exact hk)];rfl
  intro b hb p hp;rcases cY.1 hb with rfl|hb
  ·cases hp
  ·generalize w0.blocks=C at e3 hb
   match C,e3,hb with
   |[q],e3,hb=>
    rw[dY.1 hb]at hp;exact iJ.vis this e3.1 p hp
 obtain⟨cd,K,a1,a2,a3,a4,a5⟩:=GX (U:=cD d.body) (X:=fun _ _=>False) (KQ hP hd h1) hM (⟨hkind,hres,by rw[hu2]⟩:EE P d (uP P d) u) hP.kinds (sR e4) (fun b hb p hp=>by
  rcases cY.1 hb with rfl|hb
  ·cases hp
  ·exact e5 b hb p hp) d.body w0.open_ B' _ _ _ (gJ u) ⟨trivial,e3⟩ hb hB' hvis ⟨[],by rw[eS];exact hlo⟩ hH ⟨fun _ h=>h,fun _ h=>h,fun _ h=>h⟩ (fun t ht=>by
  have ht:t∈w0.locals:=ht;rw[e1]at ht;obtain⟨p,hp,rfl⟩:=eY.1 ht;exact TG hM (e6 p hp).1 (e6 p hp).2)
 have hc0:w0.open_.code=[]:=e2;rw[hc0]at a1 a2;have hcode:u.code=cd ++(if d.kind=2 then [⟨if bO P d.type=2 then 2 else 1,0,0⟩,⟨24,0,0⟩]else [⟨25,0,0⟩]):=by
  rw[hu2];show(wB P d).code ++_=_;rw[hwB];show(bZ P (uP P d) d.body w0.open_).code ++_=_;rw[a1];rfl
 have fin:∀(c:List aT) (i:aT) (t:Shape),u.code=c ++[i]→cE M u (QI P M u (cD d.body)) (fun _ _=>False) 0 c ([],gJ u) t→(i.op=24∨i.op=25)→(cS M u i t).err=0→PB (P:=P) M u (cD d.body):=fun c i t f1 f2 f3 f4=>by
  obtain⟨g1,g2,g3⟩:=aA9 f1 f2 (by unfold lH;rw[if_neg aA,if_neg aA,if_pos f3]) f4;have hq:∀j∈u.code,QI P M u (cD d.body) j:=fun j hj=>by
   rw[f1]at hj;rcases dF.1 hj with hj|hj
   ·exact g2 j hj
   ·rw[dY.1 hj];exact .plain aA aA
  refine⟨g1,fun j hj=>⟨hq j hj,?_⟩,fun t ht=>a5 t (by rw[←hlo];exact ht),hpl,by rw[f1];simp⟩
  by_cases h2:j.op=21∨j.op=22
  ·rw[f1]at hj;rcases dF.1 hj with hj|hj
   ·obtain⟨r1,r2⟩:=g3 j hj h2;unfold eV;rw[if_neg aA,if_neg aA,if_pos h2,decide_eq_true r1,decide_eq_true r2];rfl
   ·rw[dY.1 hj]at h2;omega
  ·exact(hq j hj).form aA aA
 rw[←hu]
 by_cases k2:d.kind=2
 ·rw[if_pos k2]at hcode;have hp:=xV (hP.gS d hd) aA;have hkd:=(hP.ok d hd).type aA;have hp3:d.type.kind≠3:=by unfold cV at hp;simpa using hp
  have hty:bO P d.type=1∨bO P d.type=2:=by
   rw[wG hp];have:=hkd.1;have:=hkd.2;omega
  have hsem:∀a:Int,a=(if bO P d.type=2 then 2 else 1)→cS M u ⟨a,0,0⟩ ([],K)=Fl [bO P d.type] K∧(a=1∨a=2):=fun a ha=>by
   rcases hty with h|h
   ·rw[if_neg aA]at ha;subst ha;rw[h];exact⟨WU (S:=[]) 0 0 aW, .inl rfl⟩
   ·rw[if_pos h]at ha;subst ha;rw[h];exact⟨WV (S:=[]) 0 0 aW, .inr rfl⟩
  obtain⟨hs1,hs2⟩:=hsem _ rfl;generalize(if bO P d.type=2 then(2:Int)else 1)=a at hcode hs1 hs2;refine fin (cd ++[⟨a,0,0⟩]) ⟨24,0,0⟩ ([bO P d.type],K) (by rw[hcode];simp) (a2.append (cE.op ?_ hs1 (show a≠21 by omega) (show a≠22 by omega))) (.inl rfl) ?_
  ·rcases hs2 with rfl|rfl
   ·exact .plain aK aK
   ·exact .two (.inl rfl)
  ·rw[←hres aA,WX 0 0 (hkind.trans k2)];rfl
 ·rw[if_neg k2]at hcode;exact fin cd ⟨25,0,0⟩ ([],K) hcode a2 (.inr rfl) (by rw[WY 0 0 (by rw[hkind];exact k2)];rfl)
end
def sQ(calls:List aH)(cG:List aH):List aH×List aH:=calls.foldl (fun(h:List aH×List aH) s=>if s∈h.1 then h else(h.1 ++[s],h.2 ++[s])) (cG,[])
def mJ(P:List Df):Nat→List aH→List Df→List Df
 |0,_,_=>[]
 |_,_,[]=>[]
 |n+1,cG,d::todo=>d::mJ P n (sQ (cD d.body).calls cG).1 (todo ++(sQ (cD d.body).calls cG).2.filterMap (dG P))
theorem V2(P:List Df):∀(n:Nat) (cG:List aH) (todo:List Df),kV P n cG todo=((mJ P n cG todo).flatMap fun d=>(cD d.body).iP,(mJ P n cG todo).flatMap fun d=>(cD d.body).gW)
 |0,_,_=>by rw[kV,mJ];rfl
 |n+1,_,[]=>by simp[kV,mJ]
 |n+1,cG,d::todo=>by
  rw[kV,mJ,qE,qE];have:=V2 P n (sQ (cD d.body).calls cG).1 (todo ++(sQ (cD d.body).calls cG).2.filterMap (dG P));show((cD d.body).iP ++(kV P n (sQ (cD d.body).calls cG).1 (todo ++(sQ (cD d.body).calls cG).2.filterMap (dG P))).1,(cD d.body).gW ++(kV P n (sQ (cD d.body).calls cG).1 (todo ++(sQ (cD d.body).calls cG).2.filterMap (dG P))).2)=_;rw[this]
def tY(P:List Df)(cG:List aH):Nat:=(P.filter fun d=>!decide (d.name∈cG)).length
theorem RX{α:Type}{p q:α→Bool}:∀{l:List α} {x:α},(∀y,q y=true→p y=true)→x∈l→p x=true→q x=false→(l.filter q).length+1≤(l.filter p).length
 |y::l,x,h,hx,hp,hq=>by
  have mono:∀l:List α,(l.filter q).length≤(l.filter p).length:=fun l=>by
   induction l with
   |nil=>exact bS _
   |cons z l ih=>
    rw[l0,l0]
    by_cases hz:q z=true
    ·rw[if_pos hz,if_pos (h z hz),JW,JW];omega
    ·rw[if_neg hz]
     split
     ·rw[JW];omega
     ·exact ih
  rw[l0,l0];rcases cY.1 hx with rfl|hx
  ·rw[if_neg (by rw[hq];decide),if_pos hp,JW];have:=mono l;omega
  ·have ih:=RX h hx hp hq
   by_cases hz:q y=true
   ·rw[if_pos hz,if_pos (h y hz),JW,JW];omega
   ·rw[if_neg hz]
    split
    ·rw[JW];omega
    ·exact ih
theorem aCj{P:List Df}{cG:List aH}{s:aH}(hs:s∉cG):tY P (cG ++[s])+(([s]:List aH).filterMap (dG P)).length≤tY P cG:=by
 unfold tY;have hm:∀d:Df,(!decide (d.name∈cG ++[s]))=true→(!decide (d.name∈cG))=true:=fun d h=>by
  simp only[Bool.not_eq_true',JY,dF]at h⊢;exact fun h'=>h (.inl h')
 cases hd:dG P s with
 |none=>
  have:([s]:List aH).filterMap (dG P)=[]:=by simp[hd]
  rw[this,kZ,Nat.add_zero];have key:∀l:List Df,(l.filter fun d=>!decide (d.name∈cG ++[s])).length≤(l.filter fun d=>!decide (d.name∈cG)).length:=fun l=>by
   induction l with
   |nil=>exact bS _
   |cons z l ih=>
    rw[l0,l0]
    by_cases hz:(!decide (z.name∈cG ++[s]))=true
    ·rw[if_pos hz,if_pos (hm z hz),JW,JW];omega
    ·rw[if_neg hz]
     split
     ·rw[JW];omega
     ·exact ih
  exact key P
 |some d=>
  have:([s]:List aH).filterMap (dG P)=[d]:=by simp[hd]
  rw[this,gE];obtain⟨h1,h2⟩:=pI hd;exact RX hm h1 (by rw[h2];simpa using hs) (by rw[h2];simp)
theorem CW(P:List Df):∀(calls:List aH) (h:List aH×List aH),∃new,calls.foldl (fun(h:List aH×List aH) s=>if s∈h.1 then h else(h.1 ++[s],h.2 ++[s])) h=(h.1 ++new,h.2 ++new)∧(∀s∈calls,s∈h.1 ++new)∧tY P (h.1 ++new)+(new.filterMap (dG P)).length≤tY P h.1
 |[],h=>⟨[],by rw[eS,eS];rfl,(fun s hs=>by cases hs),by rw[eS];exact bS _⟩
 |s::calls,h=>by
  rw[zA]
  by_cases hs:s∈h.1
  ·rw[if_pos hs];obtain⟨new,e1,e2,e3⟩:=CW P calls h;exact⟨new,e1,fun t ht=>(cY.1 ht).elim (fun e=>by rw[e];exact kY _ hs) (e2 t),e3⟩
  ·rw[if_neg hs];obtain⟨new,e1,e2,e3⟩:=CW P calls (h.1 ++[s],h.2 ++[s]);refine⟨s::new,by rw[e1];simp,fun t ht=>?_,?_⟩
   ·rcases cY.1 ht with rfl|ht
    ·simp
    ·have:=e2 t ht;simpa using this
   ·have h1:=aCj (P:=P) hs;have e:(s::new).filterMap (dG P)=([s]:List aH).filterMap (dG P) ++new.filterMap (dG P):=by rw[←List.filterMap_append];rfl
    rw[e,Jl,show h.1 ++s::new=h.1 ++[s] ++new by simp];have e3:tY P (h.1 ++[s] ++new)+(new.filterMap (dG P)).length≤tY P (h.1 ++[s]):=e3;omega
theorem VI(P:List Df):∀(n:Nat) (cG:List aH) (todo:List Df),todo.length+tY P cG≤n→(∀d∈todo,d∈mJ P n cG todo)∧
  ∀d∈mJ P n cG todo,∀s∈(cD d.body).calls,∀e,dG P s=some e→e∈mJ P n cG todo∨s∈cG
 |n,cG,[],_=>by
  have:mJ P n cG []=[]:=by cases n<;>simp[mJ]
  rw[this];exact⟨(fun d h=>by cases h),(fun d h=>by cases h)⟩
 |0,cG,d::todo,h=>by simp at h
 |n+1,cG,d::todo,h=>by
  obtain⟨new,e1,e2,e3⟩:=CW P (cD d.body).calls (cG,[]);have e1:sQ (cD d.body).calls cG=(cG ++new,new):=by unfold sQ;rw[e1];rfl
  rw[mJ,e1];dsimp only at e2 e3⊢;rw[JW]at h;obtain⟨i1,i2⟩:=VI P n (cG ++new) (todo ++new.filterMap (dG P)) (by rw[Jl];omega);have hnew:∀s∈new,∀e,dG P s=some e→e∈mJ P n (cG ++new) (todo ++new.filterMap (dG P)):=fun s hs e he=>i1 e (mQ _ (List.mem_filterMap.2 ⟨s,hs,he⟩));refine⟨fun x hx=>?_,fun x hx s hs e he=>?_⟩
  ·rcases cY.1 hx with rfl|hx
   ·exact .head _
   ·exact .tail _ (i1 x (kY _ hx))
  ·rcases cY.1 hx with rfl|hx
   ·rcases dF.1 (e2 s hs)with h|h
    ·exact .inr h
    ·exact .inl (.tail _ (hnew s h e he))
   ·rcases i2 x hx s hs e he with h|h
    ·exact .inl (.tail _ h)
    ·rcases dF.1 h with h|h
     ·exact .inr h
     ·exact .inl (.tail _ (hnew s h e he))
theorem V4{M:aL}{R:Int→Prop}(hR:∀x,R x→∀i∈(M.aJ.getD x.toNat default).code,i.op=23∨i.op=29→R i.a):∀(n k:Nat) (out:List Int),(∀x∈out,R x)→∀x∈pX M n k out,R x
 |0,k,out,h,x,hx=>by rw[pX]at hx;exact h x hx
 |n+1,k,out,h,x,hx=>by
  by_cases hk:k<out.length
  ·rw[V6 hk]at hx;refine V4 hR n (k+1) _ (fun y hy=>?_) x hx;rcases QN _ _ _ hy with hy|⟨i,hi,ho,rfl⟩
   ·exact h y hy
   ·exact hR _ (h _ (aCD hk)) i hi ho
  ·rw[V3 hk]at hx;exact h x hx
theorem aAs{α:Type} [Inhabited α](p:α→Bool)(l:List α):((List.range l.length).filter fun k=>p (l.getD k default)).length=(l.filter p).length:=by
 have h:l=(List.range l.length).map fun k=>l.getD k default:=by
  apply pE
  ·simp
  ·intro i h1 h2;simp[Jd,Je h1]
 conv=>rhs;rw[h]
 rw[xD,Jf];rfl
theorem MQ{P:List Df}{t:Ty}(hp:cV t=true)(hk:Kd t):plain (bO P t)=true:=by
 have hp3:t.kind≠3:=by unfold cV at hp;simpa using hp
 rw[wG hp];unfold plain;simp only[xC,JV];have:=hk.1;have:=hk.2;omega
section
variable{P:List Df}{M:aL}(hP:BZ P)(hlen:P.length≤30)(hb:M.boxes=(P.filter fun d=>decide (d.kind=1)).map fun d=>(bO P d.type,d.cap))(hu:M.aJ=(P.filter fun d=>!decide (d.kind=1)).map (fH P))
include hP hb hu
theorem LV:BX P M:=by
 refine⟨fun s d h hk=>?_,fun s d h hk=>?_,fun s d h hk=>?_,fun s d h hk=>aHo hP (pI h).1 aA aA⟩
 ·obtain⟨g, -⟩:=HI hP.nd h hk;have hl:dE P s<(P.filter fun d=>!decide (d.kind=1)).length:=(rE.1 g).1;rw[hu];refine⟨?_,by rw[Jf];exact hl⟩;rw[Jd,JU,g];rfl
 ·obtain⟨g, -⟩:=IA hP.nd h hk;rw[hb,Jd,JU,g];rfl
 ·obtain⟨g, -⟩:=IA hP.nd h hk;rw[hb,Jf];exact(rE.1 g).1
omit hb in
theorem jK{k:Nat}(hk:k<M.aJ.length):∃d,d∈P∧d.kind≠1∧(P.filter fun d=>!decide (d.kind=1)).getD k default=d∧M.aJ.getD k default=fH P d∧dE P d.name=k∧dG P d.name=some d:=by
 rw[hu,Jf]at hk;have hm:=hZ hk;have h2:=mA.1 hm;obtain⟨d,hd⟩:∃d,d=(P.filter fun d=>!decide (d.kind=1))[k]:=⟨_,rfl⟩;rw[←hd]at hm h2;have h1:d.kind≠1:=by simpa using h2.2
 have hf:dG P d.name=some d:=CY hP.nd h2.1;have hf2:=CY ((List.filter_sublist.map _).nodup hP.nd:((P.filter fun d=>!decide (d.kind=1)).map (·.name)).Nodup) hm;have e1:(P.filter fun d=>!decide (d.kind=1)).getD k default=d:=by rw[Jd,Je hk,hd];rfl
 refine⟨d,h2.1,h1,e1,by rw[hu,Jd,JU,Je hk,←hd];rfl,?_,hf⟩;obtain⟨g, -⟩:=HI hP.nd hf h1;have hN:((P.filter fun d=>!decide (d.kind=1)).map (·.name)).Nodup:=(List.filter_sublist.map _).nodup hP.nd;obtain⟨hl,hg⟩:=rE.1 g;have:=(List.getElem_inj (h₀:=by rw[Jf];exact hl) (h₁:=by rw[Jf];exact hk) hN).1 (by simp only[List.getElem_map];rw[hg,←hd]);exact this
include hlen
theorem aBv(hlim:∀u∈M.aJ,u.locals.length≤200∧u.code.length≤4000)(ht:∃d∈P,d.kind=4):yW M:=by
 refine⟨by rw[hb,Jf];exact dP (nS ..) hlen,by rw[hu,Jf];exact dP (nS ..) hlen,fun b hm=>?_,fun u hm=>?_,?_⟩
 ·rw[hb]at hm;obtain⟨d,hd,rfl⟩:=eY.1 hm;have hd:=mA.1 hd;have k1:d.kind=1:=of_decide_eq_true hd.2;have ok:=hP.ok d hd.1;exact⟨MQ (xV (hP.gS d hd.1) aA) (ok.type aA),ok.cap k1⟩
 ·obtain⟨l1,l2⟩:=hlim u hm;rw[hu]at hm;obtain⟨d,hd,rfl⟩:=eY.1 hm;have hd:=mA.1 hd;have k1:d.kind≠1:=by simpa using hd.2
  have ok:=hP.ok d hd.1;have r:=HJ hP hd.1 k1 (LV hP hb hu);refine⟨?_,fun i hi=>(r.code i hi).2⟩;have hk:=ok.kind;have f1:(fH P d).kind=d.kind:=by rw[unit_eq]
  have f2:(fH P d).params=if d.kind=4 then 0 else(d.params.length:Int):=by rw[unit_eq]
  have f3:(fH P d).result=if d.kind=4 then 0 else bO P d.type:=by rw[unit_eq]
  have f4:(fH P d).aP=if d.kind=3 then bO P d.aP else 0:=by rw[unit_eq]
  have hpa:0≤(fH P d).params∧(fH P d).params≤6∧(d.kind=4→(fH P d).params=0):=by
   rw[f2]
   by_cases h4:d.kind=4
   ·rw[if_pos h4];omega
   ·rw[if_neg h4];have:=(ok.ps aA).1;omega
  have hpl:=r.pl;have ho:=r.one;unfold head;rw[if_neg (by rw[f1];omega),if_neg (by rw[f1];omega),if_neg aA,if_neg,if_neg]
  ·intro h;obtain⟨t,ht,h⟩:=uY.1 h;simp only[JX,Bool.not_eq_true']at h;rcases r.locals t ht with h'|h'
   ·rw[h']at h;exact absurd h.1 aK
   ·rw[h']at h;exact absurd h.2 aK
  ·rw[f1,f3,f4];rintro(⟨h4,h⟩|⟨h3,h⟩)
   ·rw[if_neg h4,MQ (xV (hP.gS d hd.1) h4) (ok.type h4)]at h;cases h
   ·rw[if_pos h3,MQ (SZ (hP.gS d hd.1) h3) (ok.aP h3)]at h;cases h
 ·obtain⟨d,hd,k4⟩:=ht;exact⟨fH P d,by rw[hu];exact eY.2 ⟨d,mA.2 ⟨hd,by simp;omega⟩,rfl⟩,by rw[unit_eq];exact k4⟩
omit hlen in
theorem aIF{op:Int}{k:Nat}(hk:k<M.aJ.length)(ho:op=26∨op=27){b:Nat}(h:BF M op (b:Int) k=true):∃e∈mJ P (P.length+1) [] [(P.filter fun d=>!decide (d.kind=1)).getD k default],
  ∃s,(op=26→s∈(cD e.body).iP)∧(op=27→s∈(cD e.body).gW)∧b=iC P s∧∃d,dG P s=some d∧d.kind=1:=by
 have hM:=LV hP hb hu;obtain⟨t,t1,t2,t3,t4,t5,t6⟩:=jK hP hu hk;rw[t3];obtain⟨p1,p2⟩:=VI P (P.length+1) [] [t] (by
  have:tY P []≤P.length:=nS ..;rw[gE];omega)
 obtain⟨x,hx,hu2⟩:=uY.1 h;have hR:∃e∈mJ P (P.length+1) [] [t],e∈P∧e.kind≠1∧x=(dE P e.name:Int)∧dG P e.name=some e:=by
  refine V4 (M:=M) (R:=fun x=>∃e∈mJ P (P.length+1) [] [t],e∈P∧e.kind≠1∧x=(dE P e.name:Int)∧dG P e.name=some e) (fun y hy i hi ho=>?_) (M.aJ.length+1) 0 [(k:Int)] (fun y hy=>?_) x hx
  ·obtain⟨e,e1,e2,e3,rfl,e5⟩:=hy;obtain⟨g1, -⟩:=hM.aJ _ _ e5 e3;rw[Jj,g1]at hi;obtain⟨s,hs,ha,f,f1,f2⟩:=((HJ hP e2 e3 hM).code i hi).1.call ho;obtain⟨m1,m2⟩:=pI f1;rcases p2 e e1 s hs f f1 with h|h
   ·exact⟨f,h,m1,f2,by rw[m2];exact ha,by rw[m2];exact f1⟩
   ·cases h
  ·rw[dY.1 hy];exact⟨t,p1 t (.head _),t1,t2,by rw[t5],t6⟩
 obtain⟨e,e1,e2,e3,rfl,e5⟩:=hR;obtain⟨g1, -⟩:=hM.aJ _ _ e5 e3;rw[Jj,g1]at hu2;obtain⟨i,hi,hia⟩:=uY.1 hu2;simp only[JX,JV]at hia;have q:=((HJ hP e2 e3 hM).code i hi).1;refine⟨e,e1,?_⟩;rcases ho with ho|ho
 ·obtain⟨s,hs,ha,hd⟩:=q.send aA;exact⟨s,fun _=>hs,fun h=>absurd h aA,aA,hd⟩
 ·obtain⟨s,hs,ha,hd⟩:=q.recv aA;exact⟨s,fun h=>absurd h aA,fun _=>hs,aA,hd⟩
omit hlen in
theorem UX(ho:vP P=true){b:Nat}(hb2:b<M.boxes.length){op:Int}(hop:op=26∨op=27):lI M op (b:Int)≤1:=by
 have hbl:b<(P.filter fun d=>decide (d.kind=1)).length:=by rw[hb,Jf]at hb2;exact hb2
 obtain⟨bd,hbd⟩:∃d,d=(P.filter fun d=>decide (d.kind=1))[b]:=⟨_,rfl⟩;have hm:bd∈P.filter fun d=>decide (d.kind=1):=by rw[hbd];exact hZ _
 unfold vP at ho;have hown:=pD.1 ho bd hm;simp only[JX,JV]at hown;simp only[V2]at hown;obtain⟨q,hq⟩:∃q:Df→Bool,q=fun t=>if op=26 then decide (bd.name∈(mJ P (P.length+1) [] [t]).flatMap fun d=>(cD d.body).iP)else decide (bd.name∈(mJ P (P.length+1) [] [t]).flatMap fun d=>(cD d.body).gW):=⟨_,rfl⟩;have h1:((P.filter fun d=>decide (d.kind=4)).filter q).length≤1:=by
  rw[hq];rcases hop with h|h
  ·simp only[if_pos h];exact hown.1
  ·simp only[if_neg (show¬op=26 by omega)];exact hown.2
 have h2:(P.filter fun d=>decide (d.kind=4)).filter q=(P.filter fun d=>!decide (d.kind=1)).filter fun d=>decide (d.kind=4)&&q d:=by
  rw[List.filter_filter,List.filter_filter];refine List.filter_congr fun d _=>?_
  by_cases h4:d.kind=4
  ·simp[h4]
  ·simp[h4]
 rw[h2,←aAs]at h1;refine dP ?_ h1;unfold lI;rw[show M.aJ.length=(P.filter fun d=>!decide (d.kind=1)).length by rw[hu,Jf]];have mono:∀(p q:Nat→Bool) (l:List Nat),(∀x∈l,p x=true→q x=true)→(l.filter p).length≤(l.filter q).length:=fun p q l h=>by
  induction l with
  |nil=>exact bS _
  |cons z l ih=>
   have ih:=ih fun x hx=>h x (.tail _ hx);rw[l0,l0]
   by_cases hz:p z=true
   ·rw[if_pos hz,if_pos (h z (.head _) hz),JW,JW];omega
   ·rw[if_neg hz]
    split
    ·rw[JW];omega
    ·exact ih
 refine mono _ _ _ fun k hk h=>?_;have hk:k<M.aJ.length:=by rw[hu,Jf];exact sC.1 hk
 simp only[JX,JV]at h⊢;obtain⟨t,t1,t2,t3,t4,t5,t6⟩:=jK hP hu hk;obtain⟨e,e1,s,s1,s2,s3,d,d1,d2⟩:=aIF hP hb hu hk hop h.2;rw[t3]at e1⊢;refine⟨by have:=h.1;rw[t4,unit_eq]at this;exact this,?_⟩;obtain⟨g, -⟩:=IA hP.nd d1 d2;rw[←s3]at g;have hbs:bd=d:=by
  rw[Je hbl]at g;rw[hbd];exact sB g
 have hname:bd.name=s:=by rw[hbs];exact(pI d1).2
 rw[hq];rcases hop with h|h
 ·simp only[if_pos h,JV];exact qF.2 ⟨e,e1,by rw[hname];exact s1 h⟩
 ·simp only[if_neg (show¬op=26 by omega),JV];exact qF.2 ⟨e,e1,by rw[hname];exact s2 h⟩
end
theorem aAl{P:List Df}{M:aL}(h:compile P=some M):HU M:=by
 unfold compile at h
 split at h
 rotate_left
 ·cases h
 next hc=>
 unfold check at hc;simp only[JX]at hc;obtain⟨⟨⟨⟨⟨c1,c2⟩,c3⟩,c4⟩,c5⟩,c6⟩:=hc;unfold shaped at c1;simp only[JX,JV]at c1;obtain⟨n,hn⟩:=lK.1 c1.2;have hP:BZ P:=⟨of_decide_eq_true c2,fun d hd=>pD.1 c4 d hd,fun d hd=>pD.1 c5 d hd,MA P _ _ hn⟩;dsimp only at h
 split at h
 ·cases h
 next hl=>
 have h:=sB h;have hb:M.boxes=(P.filter fun d=>decide (d.kind=1)).map fun d=>(bO P d.type,d.cap):=by rw[←h]
 have hu:M.aJ=(P.filter fun d=>!decide (d.kind=1)).map (fH P):=by rw[←h]
 obtain⟨t,t1,t2⟩:=uY.1 c3;refine⟨aBv hP c1.1 hb hu (fun u hm=>?_) ⟨t,t1,of_decide_eq_true t2⟩,fun k hk=>?_,fun b hb2=>⟨UX hP hb hu c6 hb2 (.inl rfl),UX hP hb hu c6 hb2 (.inr rfl)⟩⟩
 ·rw[hu]at hm;simp only[uY,not_exists,not_and,xC,JV]at hl;have:=hl u hm;omega
 ·obtain⟨d,d1,d2,d3,d4, -⟩:=jK hP hu hk;obtain⟨τ,hτ⟩:=(HJ hP d1 d2 (LV hP hb hu)).cert;rw[←d4]at hτ;exact aAj hτ
theorem aDX{s:aH}{M:aL}(h:module s=some M):verify M= .ok:=by
 unfold module at h;obtain⟨P, -,h⟩:=bF.1 h;exact wO.2 (aAl h)
end Fr
section
open Go Go.RowKit
section
variable{P:Program}{N:Nd}{E:Env}{L:List Chunk}{dst:Option Tmp}{ty:TypeId}{pos:String}{aft:Array Edge}{g:Option (Nat×Bool)}{x y:Operand}{xT yT:TypeId}
theorem Still.EM{k:IntKind}{a b:Int}(hx:ev E x=some (.int k a))(hy:ev E y=some (.int k b)):Still P N ⟨dst, .binOp .xor xT x y yT,ty,pos,aft,g⟩ E L (.int k (bits .xor k a b)):=fun A w hs _=>by
 simp[execOp,hs.ev hx,hs.ev hy,eqGuard,binOp_xor,intBits_xor]
theorem Still.shr{k k':IntKind}{a b z:Int}(hx:ev E x=some (.int k a))(hy:ev E y=some (.int k' b))(hb:0≤b)(hz:a.fdiv (2^min b.toNat k.bits)=z):Still P N ⟨dst, .binOp .shr xT x y yT,ty,pos,aft,g⟩ E L (.int k z):=fun A w hs _=>by
 subst hz;simp[execOp,hs.ev hx,hs.ev hy,eqGuard,binOp,Op.shift,show¬b<0 by omega]
end
end
namespace ImgB
open Go Go.RowKit
theorem wrap_u64(n:Int):IntKind.u64.wrap n=n % 18446744073709551616:=by simp[IntKind.wrap,IntKind.bits,IntKind.signed]
theorem wrap_u8(n:Int):IntKind.u8.wrap n=n % 256:=by simp[IntKind.wrap,IntKind.bits,IntKind.signed]
theorem HF(n:Int):((BitVec.ofInt 64 n).toNat:Int)=n % 18446744073709551616:=by
 rw[BitVec.toNat_ofInt];have:(0:Int)≤n % 18446744073709551616:=Int.emod_nonneg _ aK;simp;omega
theorem aIZ(a b:Int):bits BinOp.xor IntKind.u64 a b=((BitVec.ofInt 64 a^^^BitVec.ofInt 64 b).toNat:Int):=by
 have h:(BitVec.ofInt 64 a^^^BitVec.ofInt 64 b).toNat<18446744073709551616:=BitVec.isLt _;simp only[bits];rw[wrap_u64];show(((BitVec.ofInt 64 a^^^BitVec.ofInt 64 b).toNat:Nat):Int) % 18446744073709551616=_;omega
theorem aI3(z:Int)(h:ImgM.In64 z):bits BinOp.xor IntKind.u64 (IntKind.u64.wrap (wrap64 (z*2))) (IntKind.u64.wrap (z/9223372036854775808))=((ImgM.o7 z:Nat):Int):=by
 obtain⟨h1,h2⟩:=h;have e:IntKind.u64.wrap (wrap64 (z*2))=(z*2) % 18446744073709551616:=by
  rw[wrap_u64];unfold wrap64;omega
 rw[e,aIZ]
 by_cases hz:z<0
 ·have e2:z/9223372036854775808= -1:=aA;rw[e2];have e3:BitVec.ofInt 64 (IntKind.u64.wrap (-1))=BitVec.allOnes 64:=by rw[wrap_u64];rfl
  rw[e3,BitVec.xor_allOnes,BitVec.toNat_not];have h3:=HF (z*2 % 18446744073709551616);have h4:=(BitVec.ofInt 64 (z*2 % 18446744073709551616)).isLt;unfold ImgM.o7;rw[if_pos hz];generalize(BitVec.ofInt 64 (z*2 % 18446744073709551616)).toNat=y at *;simp only[Nat.reducePow]at *;omega
 ·have e2:z/9223372036854775808=0:=aA;rw[e2];have e3:BitVec.ofInt 64 (IntKind.u64.wrap 0)=0#64:=by rw[wrap_u64];rfl
  rw[e3,BitVec.xor_zero,HF];unfold ImgM.o7;rw[if_neg hz];omega
theorem aEC(y:Nat):bits BinOp.or IntKind.u8 (IntKind.u8.wrap (y:Int)) 128=((y % 128+128:Nat):Int):=by
 have e:IntKind.u8.wrap (y:Int)=((y % 256:Nat):Int):=by rw[wrap_u8];omega
 rw[e];have:=(bits_nat .u8 8 aK wraps_u8 (y % 256) 128 aA aK).2;refine this.trans ?_;have key:∀a:Fin 256,a.val|||128=a.val % 128+128:=by decide +kernel
 have:=key ⟨y % 256,aA⟩;simp only at this;rw[this];omega
theorem aEE(X c k:Nat)(hX:X<2^(7*k))(hk:k≤9)(hc:c<256)(h9:k=9→c≤1):
  bits BinOp.or IntKind.u64 (X:Int) (IntKind.u64.wrap (IntKind.u64.wrap (bits BinOp.and IntKind.u8 (c:Int) 127)*2^(7*k)))=((X+c % 128*2^(7*k):Nat):Int)∧X+c % 128*2^(7*k)<18446744073709551616∧X+c % 128*2^(7*k)<2^(7*(k+1)):=by
 have e1:bits BinOp.and IntKind.u8 (c:Int) 127=((c % 128:Nat):Int):=by
  have:=bits_mask .u8 8 aK wraps_u8 7 aK (c:Int) aA aA;refine(show bits BinOp.and IntKind.u8 (c:Int) 127=bits BinOp.and IntKind.u8 (c:Int) (2^7-1)from rfl).trans (this.trans ?_);simp
 have e2:IntKind.u64.wrap (((c % 128:Nat)):Int)=((c % 128:Nat):Int):=by rw[wrap_u64];omega
 have hlt:c % 128*2^(7*k)+X<18446744073709551616∧c % 128*2^(7*k)+X<2^(7*(k+1)):=by
  have hp:2^(7*(k+1))=128*2^(7*k):=by rw[show 7*(k+1)=7+7*k by omega,Nat.pow_add]
  have h1:c % 128*2^(7*k)≤127*2^(7*k):=Nat.mul_le_mul_right _ aA;refine⟨?_,aA⟩;rcases Nat.lt_or_eq_of_le hk with h|rfl
  ·have h2:2^(7*(k+1))≤2^63:=Nat.pow_le_pow_right aK aA;have h3:(2:Nat)^63=9223372036854775808:=aK;omega
  ·have:=h9 rfl;have h3:(2:Nat)^(7*9)=9223372036854775808:=aK;rw[h3]at hX⊢;have:c % 128≤1:=aA;have:c % 128*9223372036854775808≤1*9223372036854775808:=Nat.mul_le_mul_right _ this;omega
 have e3:IntKind.u64.wrap ((((c % 128:Nat)):Int)*2^(7*k))=((c % 128*2^(7*k):Nat):Int):=by
  have:(((c % 128:Nat)):Int)*2^(7*k)=((c % 128*2^(7*k):Nat):Int):=by
   rw[Int.natCast_mul,Int.natCast_pow];rfl
  rw[this,wrap_u64];have:=hlt.1;omega
 rw[e1,e2,e3];have:=(bits_nat .u64 64 aK (fun n h0 h1=>by rw[wrap_u64];omega) X (c % 128*2^(7*k)) (by have:=hlt.1;omega) (by have:=hlt.1;omega)).2;refine⟨this.trans ?_,aA,aA⟩;rw[Nat.or_comm];have h:=Nat.two_pow_add_eq_or_of_lt hX (c % 128);rw[Nat.mul_comm (c % 128)];rw[←h,Nat.add_comm]
theorem aI2(Y:Nat)(h:Y<18446744073709551616):bits BinOp.xor IntKind.i64 ((Y:Int)/2) (wrap64 (-wrap64 (bits BinOp.and IntKind.u64 (Y:Int) 1)))=ImgM.D2 Y:=by
 have e1:bits BinOp.and IntKind.u64 (Y:Int) 1=((Y % 2:Nat):Int):=by
  have:=bits_mask .u64 64 aK (fun n h0 h1=>by rw[wrap_u64];omega) 1 aK (Y:Int) aA aA;refine(show bits BinOp.and IntKind.u64 (Y:Int) 1=bits BinOp.and IntKind.u64 (Y:Int) (2^1-1)from rfl).trans (this.trans ?_);simp
 rw[e1];have hx:∀a b:Int,bits BinOp.xor IntKind.i64 a b=IntKind.i64.wrap ((BitVec.ofInt 64 a^^^BitVec.ofInt 64 b).toNat:Int):=fun a b=>rfl;rw[hx,IntKind.wrap_i64];have hy:((Y:Int)/2)=((Y/2:Nat):Int):=aA;rw[hy];unfold ImgM.D2
 by_cases h2:Y % 2=0
 ·rw[if_pos h2,h2];have e2:wrap64 (-wrap64 ((0:Nat):Int))=0:=by unfold wrap64;decide
  rw[e2];have e3:BitVec.ofInt 64 0=0#64:=rfl;rw[e3,BitVec.xor_zero,HF];omega
 ·rw[if_neg h2,show Y % 2=1 by omega];have e2:wrap64 (-wrap64 ((1:Nat):Int))= -1:=by unfold wrap64;decide
  rw[e2];have e3:BitVec.ofInt 64 (-1)=BitVec.allOnes 64:=rfl;rw[e3,BitVec.xor_allOnes,BitVec.toNat_not];have h3:=HF ((Y/2:Nat):Int);have h4:=(BitVec.ofInt 64 ((Y/2:Nat):Int)).isLt;generalize(BitVec.ofInt 64 ((Y/2:Nat):Int)).toNat=y at *;simp only[Nat.reducePow]at *;omega
end ImgB
namespace Vw
open Go.RowKit Img
def eQ(c:Nat):List Value:=[.int .u8 (c:Int)]
instance:bH eQ:=⟨fun _=>rfl,aK,fun a u hu=>by simp[eQ]at hu;subst hu;rfl⟩
abbrev BI(wb:Nat)(ao:Option Addr)(cap:Nat)(bs:List Nat):List Chunk:=[aF wb [.slice ao bs.length cap] 109,arr ao bs.length cap 5 eQ bs]
attribute [local irreducible] aE aG End aB Still aN aU RunT Fn aS
theorem Y2(wb:Nat)(ao:Option Addr)(cap:Nat)(bs:List Nat)(lo:Option Addr)(lc:Nat)(l:List Int)(hl:∀n∈l,ImgM.In64 n)(hsz:bs.length+10*l.length≤1000000000):
  Fn Tryz.prog 38 #[ptr wb, .slice lo l.length lc] [rd lo l.length lc aY l] (BI wb ao cap bs) (σ:=Option Addr×Nat) (fun _=>True) (fun _=> .tuple #[]) (fun s=>BI wb s.1 s.2 (bs ++ImgM.bI l)):=by
 refine JE [ptr wb, .slice lo l.length lc] Tryz.func38 Tryz.ntmps38 fun w S=>?_;refine Jn ?_
 repeat(refine Jy ?_;try first|intro ao cap|intro b)
 refine cK (σ:=Nat×Option Addr×Nat×List Nat) (fun z=>z.1≤l.length∧z.2.2.2=bs ++ImgM.bI (l.take z.1)) (fun z=>[(0,ptr wb),(7, .slice lo l.length lc),(8, .int .i64 l.length),(9, .int .i64 z.1)]) (fun z:Nat×Option Addr×Nat×List Nat=>[aO w S,rd lo l.length lc aY l,aF wb [.slice z.2.1 z.2.2.2.length z.2.2.1] 109,arr z.2.1 z.2.2.2.length z.2.2.1 5 eQ z.2.2.2]) (fun z=>l.length-z.1) (0,ao,cap,bs) ?_ fun z hz K1 hK1=>?_
 ·exact⟨bQ _,by simp[ImgM.bI]⟩
 refine Jn ?_;obtain⟨k,a1,c1,cs⟩:=z;obtain⟨hz,hcs⟩:=hz;dsimp only at hz hcs⊢
 by_cases hk:k<l.length
 ·have hn:ImgM.In64 (l.getD k default):=hl _ (by rw[Jd,Je hk];exact hZ _);have hlt:∀n∈l.take k,ImgM.In64 n:=fun n hn=>hl n (List.mem_of_mem_take hn);have hcl:cs.length≤bs.length+10*k:=by rw[hcs,Jl];have:=ImgM.C4 hlt;rw[jM]at this;omega
  have hnl:=ImgM.UE hn
  repeat(refine Jy ?_;try first|intro ao cap|intro b)
  generalize hN:l.getD k default=n at hn hnl⊢;apply aE.op aV;refine aB.bP (h:=Still.shl (z:=wrap64 (n*2)) rfl rfl aK (by show IntKind.i64.wrap (n*2)=wrap64 (n*2);rw[IntKind.wrap_i64,wrap64])) (k:=?_);apply aE.op aV;refine aB.bP (h:=Still.conv rfl rfl rfl rfl) (k:=?_)
  repeat(refine Jy ?_;try first|intro ao cap|intro b)
  apply aE.op aV;refine aB.bP (h:=Still.shr (z:=n/9223372036854775808) rfl rfl aK (by show n.fdiv 9223372036854775808=_;exact BQ _ aK)) (k:=?_);apply aE.op aV;refine aB.bP (h:=Still.conv rfl rfl rfl rfl) (k:=?_);apply aE.op aV;refine aB.bP (v:= .int .u64 ((ImgM.o7 n:Nat):Int)) (h:=by rw[←ImgB.aI3 n hn];exact Still.EM rfl rfl) (k:=?_)
  repeat(refine Jy ?_;try first|intro ao cap|intro b)
  have hzl:=ImgM.OR hn;refine cK (σ:=Nat×List Nat×Option Addr×Nat×List Nat) (fun y=>y.2.1 ++ImgM.nG y.1=ImgM.num n∧y.1<18446744073709551616∧y.2.2.2.2=cs ++y.2.1) (fun y=>[(0,ptr wb),(6, .int .u64 (y.1:Int)),(7, .slice lo l.length lc),(8, .int .i64 l.length),(9, .int .i64 k)]) (fun y:Nat×List Nat×Option Addr×Nat×List Nat=>[aO w S,rd lo l.length lc aY l,aF wb [.slice y.2.2.1 y.2.2.2.2.length y.2.2.2.1] 109,arr y.2.2.1 y.2.2.2.2.length y.2.2.2.1 5 eQ y.2.2.2.2]) (fun y=>y.1) (ImgM.o7 n,[],a1,c1,cs) ?_ fun y hy K2 hK2=>?_
  ·exact⟨rfl,hzl,aW⟩
  refine Jn ?_;obtain⟨x,ds,a2,c2,es⟩:=y;obtain⟨y1,y2,y3⟩:=hy;dsimp only at y1 y2 y3⊢;have hdl:ds.length≤10:=by have:=congrArg List.length y1;rw[Jl]at this;omega
  have hel:es.length≤1000000000:=by rw[y3,Jl];omega
  by_cases hx:x<128
  ·have hleb:=ImgM.CO hx
   repeat(refine Jy ?_;try first|intro ao cap|intro b)
   rw[show es.length+1=(es ++[x]).length by simp];refine End.bK hK1 (k+1,ao,cap,es ++[x]) ?_ ?_
   ·refine⟨hk,?_⟩;show es ++[x]=bs ++ImgM.bI (l.take (k+1));rw[ImgM.UH l k hk,show l.getD k 0=n from hN,←y1,hleb,y3,hcs];simp[Jt]
   ·dsimp only;omega
  ·have hleb:=ImgM.FV hx
   repeat(refine Jy ?_;try first|intro ao cap|intro b)
   apply aE.imp' (fun w hm=>(show Mem w (aF wb [.slice ao (es.length+1) cap] 109::arr ao (es.length+1) cap 5 eQ (es ++[(bits .or .u8 (IntKind.u8.wrap (x:Int)) 128).toNat])::_)from hm));rw[ImgB.aEC,Jj];apply aE.op aV;refine aB.bP (h:=Still.shr (z:=((x/128:Nat):Int)) rfl rfl aK (by show(x:Int).fdiv 128=_;rw[BQ _ aK];omega)) (k:=?_)
   repeat(refine Jy ?_;try first|intro ao cap|intro b)
   rw[show es.length+1=(es ++[x % 128+128]).length by simp];refine End.bK hK2 (x/128,ds ++[x % 128+128],ao,cap,es ++[x % 128+128]) ?_ ?_
   ·refine⟨?_,by dsimp only;omega,by dsimp only;rw[y3,Jt]⟩;show(ds ++[x % 128+128]) ++ImgM.nG (x/128)=_;rw[←y1,hleb];simp[Jt]
   ·dsimp only;omega
 ·repeat(refine Jy ?_;try first|intro ao cap|intro b)
  have e:cs=bs ++ImgM.bI l:=by rw[hcs,kN aA]
  subst e;(refine End.dL ((a1,c1)) (hp:=?_));trivial
theorem wP(wb:Nat)(ao:Option Addr)(cap:Nat)(bs:List Nat)(lo:Option Addr)(lc:Nat)(l:List Int)(hl:∀n∈l,ImgM.In64 n)(hsz:bs.length+10*l.length≤1000000000):
  Fn Tryz.prog 36 #[ptr wb, .slice lo l.length lc] [rd lo l.length lc aY l] (BI wb ao cap bs) (σ:=Option Addr×Nat) (fun _=>True) (fun _=> .tuple #[]) (fun s=>BI wb s.1 s.2 (bs ++ImgM.bI l)):=by
 refine JE [ptr wb, .slice lo l.length lc] Tryz.func36 Tryz.ntmps36 fun w S=>?_;refine Jn ?_
 repeat(refine Jy ?_;try first|intro ao cap|intro b)
 refine cK (σ:=Nat×Option Addr×Nat×List Nat) (fun z=>z.1≤l.length∧z.2.2.2=bs ++ImgM.bI (l.take z.1)) (fun z=>[(0,ptr wb),(6, .slice lo l.length lc),(7, .int .i64 l.length),(8, .int .i64 z.1)]) (fun z:Nat×Option Addr×Nat×List Nat=>[aO w S,rd lo l.length lc aY l,aF wb [.slice z.2.1 z.2.2.2.length z.2.2.1] 109,arr z.2.1 z.2.2.2.length z.2.2.1 5 eQ z.2.2.2]) (fun z=>l.length-z.1) (0,ao,cap,bs) ?_ fun z hz K1 hK1=>?_
 ·exact⟨bQ _,by simp[ImgM.bI]⟩
 refine Jn ?_;obtain⟨k,a1,c1,cs⟩:=z;obtain⟨hz,hcs⟩:=hz;dsimp only at hz hcs⊢
 by_cases hk:k<l.length
 ·have hn:ImgM.In64 (l.getD k default):=hl _ (by rw[Jd,Je hk];exact hZ _);have hlt:∀n∈l.take k,ImgM.In64 n:=fun n hn=>hl n (List.mem_of_mem_take hn);have hcl:cs.length≤bs.length+10*k:=by rw[hcs,Jl];have:=ImgM.C4 hlt;rw[jM]at this;omega
  repeat(refine Jy ?_;try first|intro ao cap|intro b)
  apply aE.imp' (fun w hm=>hm.jB (iα:=inferInstance) (ef:=inferInstance) (b:=b) (e:=2) (f:=aY) (n:=1) (tk) [l.getD k default] rfl rfl (by unfold maxLen;simp));(refine dV (Y2 wb a1 c1 cs (some ⟨b,0,none⟩) 1 [l.getD k default] (fun n hm=>by rw[dY.1 hm];exact hn) (by simp only[gE];omega)) fun s hs=>?_)
  repeat(refine Jy ?_;try first|intro ao cap|intro b)
  refine End.bK hK1 (k+1,s.1,s.2,cs ++ImgM.bI [l.getD k default]) ?_ ?_
  ·refine⟨hk,?_⟩;show cs ++ImgM.bI [l.getD k default]=bs ++ImgM.bI (l.take (k+1));rw[ImgM.UH l k hk,hcs];simp[ImgM.bI,Jt]
  ·dsimp only;omega
 ·repeat(refine Jy ?_;try first|intro ao cap|intro b)
  have e:cs=bs ++ImgM.bI l:=by rw[hcs,kN aA]
  subst e;(refine End.dL ((a1,c1)) (hp:=?_));trivial
theorem aIK(wb:Nat)(ao:Option Addr)(cap:Nat)(bs:List Nat)(lo:Option Addr)(lc:Nat)(l:List Int)(hl:∀n∈l,ImgM.In64 n)(hsz:bs.length+10*l.length+10≤1000000000):
  Fn Tryz.prog 37 #[ptr wb, .slice lo l.length lc] [rd lo l.length lc aY l] (BI wb ao cap bs) (σ:=Option Addr×Nat) (fun _=>True) (fun _=> .tuple #[]) (fun s=>BI wb s.1 s.2 (bs ++ImgM.bI ((l.length:Int)::l))):=by
 refine JE [ptr wb, .slice lo l.length lc] Tryz.func37 Tryz.ntmps37 fun w S=>?_;refine Jn ?_
 repeat(refine Jy ?_;try first|intro ao cap|intro b)
 have hn:ImgM.In64 (l.length:Int):=by unfold ImgM.In64;omega
 apply aE.imp' (fun w hm=>hm.jB (iα:=inferInstance) (ef:=inferInstance) (b:=b) (e:=3) (f:=aY) (n:=1) (tk) [(l.length:Int)] rfl rfl (by unfold maxLen;simp));(refine dV (wP wb ao cap bs (some ⟨b,0,none⟩) 1 [(l.length:Int)] (fun n hm=>by rw[dY.1 hm];exact hn) (by simp only[gE];omega)) fun s hs=>?_);have h1:(bs ++ImgM.bI [(l.length:Int)]).length≤bs.length+10:=by rw[Jl];have:=ImgM.C4 (l:=[(l.length:Int)]) (fun n hm=>by rw[dY.1 hm];exact hn);rw[gE]at this;omega
 repeat(refine Jy ?_;try first|intro ao cap|intro b)
 (refine dV (wP wb s.1 s.2 (bs ++ImgM.bI [(l.length:Int)]) lo lc l hl aA) fun s hs=>?_)
 repeat(refine Jy ?_;try first|intro ao cap|intro b)
 have e:(bs ++ImgM.bI [(l.length:Int)]) ++ImgM.bI l=bs ++ImgM.bI ((l.length:Int)::l):=by simp[ImgM.bI,Jt]
 rw[e];(refine End.dL (s) (hp:=?_));trivial
end Vw
section
open Go Go.RowKit
section
variable{α:Type} [Inhabited α]{f:α→List Value} [bH f]{C:Chunk}{ao:Option Addr}{cap:Nat}{l:List α}{x0:α}
structure Tl(C:Chunk)(f:α→List Value)(ao:Option Addr)(cap:Nat)(l:List α):Prop where
 row:∀w,C.holds w→Row w (.slice ao l.length cap) (sz f) l.length (l.flatMap f)
 dA:∀k,(Value.slice ao l.length cap).ownBlock=some k→0<l.length→C.dA k
theorem Tl.mem{w:World}{L L':List Chunk}(h:Tl C f ao cap l)(hx:C.bE=false)(t:Take C L L')(hm:Mem w L):Mem w (rd ao l.length cap f l::L):=
 hm.dup t eO (jJ.2 ⟨h.row w (hm.has t),rfl⟩) (fun b hb=>h.dA b (iZ.1 hb).1 (iZ.1 hb).2) hx
theorem Tl.base:Tl (rd ao l.length cap f l) f ao cap l:=⟨fun w h=>(jJ.1 h).1,fun k h1 h2=>iZ.2 ⟨h1,h2⟩⟩
variable{P:Program} [eT P]{Q:Exit→Act→World→Prop}{N:Nd}{E:Env}{L L':List Chunk}
variable{dst:Option Tmp}{ty:TypeId}{pos:String}{aft:Array Edge}{g:Option (Nat×Bool)}{e:TypeId}
theorem aB.aBC{t:TypeId}{s' b' s2 b2:Nat}{d2:dO}{z' z2:List Value}{x:Operand}{ol oh:Option Operand}{K:Env→List Chunk→Prop}(hT:Tl C f ao cap (x0::l))(hm:Take C L L')(hx:ev E x=some (.slice ao (l.length+1) cap))(ht:bB P t=some ⟨.slice e,s',b',z'⟩)(he:bB P e=some ⟨d2,s2,b2,z2⟩)
  (hs2:s2=sz f) (hb:eB E (l.length+1) ol oh 1 (l.length+1)) (hd:cR N dst=true)
  (k:∀ao' cap',Tl C f ao' cap' l→K (cP dst (.slice ao' l.length cap') E) L):aB P Q N ⟨dst, .slice t x ol oh none,ty,pos,aft,g⟩ E L K:=fun K hK A w hS hM=>by
 have hrow:=hT.row w (hM.has hm);have hcap:l.length+1≤cap:=by
  obtain⟨-, -,ao',cap',g2,g3, -⟩:=hrow;simp only[Value.slice.injEq]at g2;obtain⟨-, -,rfl⟩:=g2;exact g3
 unfold Oper.wp;rw[DI hS hx ht he hb aA aA w];subst hs2;refine hK _ _ (k _ _ ⟨fun w hw=>?_,fun k h1 h2=>?_⟩) _ _ (hS.put _ hd) hM
 ·have h:=Row.sub (lo:=1) (hi:=l.length+1) (hT.row w hw) rfl aA (bS _);have e2:((x0::l).take (l.length+1)).drop 1=l:=by rw[kN aW];rfl
  rw[e2]at h;exact h
 ·exact hT.dA k (MF h1 _) aW
end
end
namespace Vw
open Go.RowKit Img
structure Z0(C:Chunk)(rest:List Nat)(V:Nat)(z:Nat×Nat×Nat×Option Addr×Nat):Prop where
 k:z.1≤9
 X:z.2.1<2^(7*z.1)
 val:V=z.2.1+z.2.2.1*2^(7*z.1)
 y:1≤z.1→1≤z.2.2.1
 tl:Tl C eQ z.2.2.2.1 z.2.2.2.2 (ImgM.nG z.2.2.1 ++rest)
attribute [local irreducible] aE aG End aB Still aN aU RunT Fn aS
attribute [local irreducible] bits
theorem MW(C:Chunk)(hx:C.bE=false)(rb:Nat)(ao:Option Addr)(cap:Nat)(v:Int)(hv:ImgM.In64 v)(rest:List Nat)(hrl:rest.length≤100000)(hT:Tl C eQ ao cap (ImgM.num v ++rest)):
  Fn Tryz.prog 70 #[ptr rb] [C] [aF rb [.slice ao (ImgM.num v ++rest).length cap] 121] (σ:=Option Addr×Nat) (fun s=>Tl C eQ s.1 s.2 rest) (fun _=> .int .i64 v) (fun s=>[aF rb [.slice s.1 rest.length s.2] 121]):=by
 refine Fn.enter (args:=[ptr rb]) Tryz.func70 rfl _ Tryz.ntmps70 rfl (by simp[hx]) (fun w S=>?_);refine Jn ?_;have hzl:=ImgM.OR hv
 repeat(refine Jy ?_;try first|intro ao cap|intro b)
 refine cK (σ:=Nat×Nat×Nat×Option Addr×Nat) (fun z=>Z0 C rest (ImgM.o7 v) z) (fun z=>[(0,ptr rb),(3, .int .u64 (z.2.1:Int)),(4, .int .i64 ((7*z.1:Nat):Int))]) (fun z:Nat×Nat×Nat×Option Addr×Nat=>[aO w S,C,aF rb [.slice z.2.2.2.1 (ImgM.nG z.2.2.1 ++rest).length z.2.2.2.2] 121]) (fun z=>z.2.2.1) (0,0,ImgM.o7 v,ao,cap) ?_ fun z hz K1 hK1=>?_
 ·exact⟨bQ _,aW,aW,(fun h=>by cases h),hT⟩
 refine Jn ?_;obtain⟨k,x,y,a1,c1⟩:=z;obtain⟨i1,i2,i3,i4,i5⟩:=hz;dsimp only at i1 i2 i3 i4 i5⊢;obtain⟨c,tl,h1,h2,h3,h4,h5,h6,h7⟩:∃c tl,ImgM.nG y ++rest=c::tl∧c<256∧c % 128=y % 128∧(c<128→y=c∧tl=rest)∧(¬c<128→tl=ImgM.nG (y/128) ++rest∧128≤y)∧(1≤k→1≤c)∧(k=9→c≤1):=by
  have h9:k=9→y≤1:=fun h=>by
   subst h;rw[i3]at hzl;have e:(2:Nat)^(7*9)=9223372036854775808:=aK;rw[e]at hzl;omega
  by_cases hy:y<128
  ·exact⟨y,rest,by rw[ImgM.CO hy];rfl,aA,rfl,fun _=>⟨rfl,rfl⟩,aA,i4,h9⟩
  ·exact⟨y % 128+128,ImgM.nG (y/128) ++rest,by rw[ImgM.FV hy];rfl,aA,aA,aA,fun _=>⟨rfl,aA⟩,aA,fun h=>by have:=h9 h;omega⟩
 rw[h1]at i5⊢;obtain⟨o1,o2,o3⟩:=ImgB.aEE x c k i2 i1 h2 h7;have htl:tl.length≤100010:=by
  have:=congrArg List.length h1;rw[Jl,JW]at this;have hl:=ImgM.S9 9 y (Nat.lt_of_le_of_lt (by rw[i3];exact dP (Nat.le_mul_of_pos_right _ (Nat.two_pow_pos _)) (Nat.le_add_left _ _)) (Nat.lt_trans hzl aK));omega
 apply aG.imp (fun w hm=>Tl.mem i5 hx (tk) hm);rw[JW]
 repeat(refine Jy ?_;try first|intro ao cap|intro b)
 (apply aE.op;exact rfl;refine aB.bP (h:=by(apply Still.at_;exact rfl;exact rfl;exact Jr;exact rfl;exact rfl;exact rfl;exact zY;omega)) (k:=?_))
 repeat(refine Jo ?_)
 rw[show(c::tl).getD 0 default=c from rfl];apply aE.op aV;refine aB.aBC (hT:=i5) (hm:=tk) rfl rfl rfl rfl (by(first|exact eB.all|(apply eB.lo;exact rfl;(first|exact gT _|exact(rfl:(0:Int)=((0:Nat):Int))|exact rfl|(refine(oJ ?_).symm;omega)))|(apply eB.hi;exact rfl;(first|exact gT _|exact(rfl:(0:Int)=((0:Nat):Int))|exact rfl|(refine(oJ ?_).symm;omega)))|(apply eB.both;exact rfl;(first|exact gT _|exact(rfl:(0:Int)=((0:Nat):Int))|exact rfl|(refine(oJ ?_).symm;omega));exact rfl;(first|exact gT _|exact(rfl:(0:Int)=((0:Nat):Int))|exact rfl|(refine(oJ ?_).symm;omega))))) rfl (fun a2 c2 i6=>?_);refine Jn ?_;have hmin:min (((7*k:Nat):Int)).toNat (IntKind.bits .u64)=7*k:=by rw[Jj];exact Nat.min_eq_left (show 7*k≤64 by omega)
 have hp:(2:Nat)^(7*(k+1))=128*2^(7*k):=by rw[show 7*(k+1)=7+7*k by omega,Nat.pow_add]
 by_cases hc:c<128
 ·have hk3:k=0∨(1≤k∧k≤8)∨k=9:=aA;rcases hk3 with hk|hk|hk
  all_goals
   repeat(refine Jo ?_)
   apply aE.op aV;refine aB.bP (h:=Still.shl (z:=IntKind.u64.wrap (IntKind.u64.wrap (bits .and .u8 (c:Int) 127)*2^(7*k))) rfl rfl aA (by rw[hmin])) (k:=?_);apply aE.op aV;refine aB.bP (v:= .int .u64 ((x+c % 128*2^(7*k):Nat):Int)) (h:=by rw[←o1];exact Still.H8 rfl rfl) (k:=?_);obtain⟨rfl,rfl⟩:=h4 hc;have e:x+y % 128*2^(7*k)=ImgM.o7 v:=by rw[i3,Nat.mod_eq_of_lt hc]
   rw[e];clear o1 o2 o3 e i3;generalize hY:ImgM.o7 v=Y at *
   repeat(refine Jy ?_;try first|intro ao cap|intro b)
   apply aE.op aV;refine aB.bP (h:=Still.shr (z:=(Y:Int)/2) rfl rfl aK (by show(Y:Int).fdiv 2=_;exact BQ _ aK)) (k:=?_);apply aE.op aV;refine aB.bP (v:= .int .i64 ((Y:Int)/2)) (h:=Still.conv rfl rfl rfl (by rw[IntKind.wrap_i64];omega)) (k:=?_);apply aE.op aV;refine aB.bP (k:=?_);apply aE.op aV;refine aB.bP (h:=Still.P2 rfl rfl) (k:=?_);apply aE.op aV;refine aB.bP (v:= .int .i64 (wrap64 (bits .and .u64 (Y:Int) 1))) (h:=Still.conv rfl rfl rfl (by rw[IntKind.wrap_i64,wrap64])) (k:=?_);apply aE.op aV;refine aB.bP (v:= .int .i64 (wrap64 (-wrap64 (bits .and .u64 (Y:Int) 1)))) (h:=Still.neg rfl (by rw[IntKind.wrap_i64,Int.zero_sub];generalize wrap64 (bits .and .u64 (Y:Int) 1)=q;rw[wrap64])) (k:=?_);apply aE.op aV;refine aB.bP (v:= .int .i64 v) (h:=by rw[show v=ImgM.D2 Y by rw[←hY,ImgM.aI1],←ImgB.aI2 Y hzl];exact Still.EM rfl rfl) (k:=?_)
   repeat(refine Jy ?_;try first|intro ao cap|intro b)
   refine cL (a2,c2) ?_;exact i6
 ·have hk3:k=0∨(1≤k∧k≤8):=aA;rcases hk3 with hk|hk
  all_goals
   repeat(refine Jo ?_)
   apply aE.op aV;refine aB.bP (h:=Still.shl (z:=IntKind.u64.wrap (IntKind.u64.wrap (bits .and .u8 (c:Int) 127)*2^(7*k))) rfl rfl aA (by rw[hmin])) (k:=?_);apply aE.op aV;refine aB.bP (v:= .int .u64 ((x+c % 128*2^(7*k):Nat):Int)) (h:=by rw[←o1];exact Still.H8 rfl rfl) (k:=?_);obtain⟨t1,t2⟩:=h5 hc
   repeat(refine Jy ?_;try first|intro ao cap|intro b)
   rw[t1];refine End.bK hK1 (k+1,x+c % 128*2^(7*k),y/128,a2,c2) ?_ ?_
   ·refine⟨by dsimp only;omega,o3,?_,(fun _=>by dsimp only;omega),by dsimp only;rw[←t1];exact i6⟩;dsimp only;rw[hp,i3,h3];generalize 2^(7*k)=p;have:y=128*(y/128)+y % 128:=aA
    conv=>lhs;rw[this]
    rw[Nat.add_mul,Nat.mul_comm 128,Nat.mul_assoc];omega
   ·dsimp only;omega
end Vw
end Go.Proofs.YtofckcabpchcmaaGreatDoor
