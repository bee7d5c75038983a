/- Kahn's fixed point: what Solo does, as what a task is given; all rounds. Plain Lean. -/
import Derived.Test.YtofckcabpchcmaaGreatDoorM34
set_option linter.unusedVariables false
set_option linter.unusedSimpArgs false
set_option linter.unusedSectionVars false
set_option maxRecDepth 100000
namespace Go.Proofs.YtofckcabpchcmaaGreatDoor
namespace Vm
open ImgM Ver Opt
structure xZ(M:aG)(F:List (List Int))(s:Ls):Prop where
 K:AY M F s
 iJ:∀l∈s.bM,∀v∈l,bG v
theorem RY{M:aG}{F:List (List Int)}(hF:sH M F):mP (lists F) M (xZ M F):=by
 refine⟨fun s b hK hb he=>?_,fun s b v hK hb hf hv ht=>?_,fun s e hK=>hK⟩
 ·obtain⟨h1,h2,h3⟩:=(KL hF).take s b hK.K hb he;exact⟨⟨h1,hK.iJ⟩,h2,h3⟩
 ·refine⟨(KL hF).put s b v hK.K hb hf hv ht,fun l hl w hw=>?_⟩;have hl:l∈s.bM.set b (s.bM.getD b [] ++[v]):=hl;rcases tU hl with hl|rfl
  ·exact hK.iJ l hl w hw
  ·rcases dH.1 hw with hw|hw
   ·by_cases hb2:b<s.bM.length
    ·exact hK.iJ _ (IM hb2) w hw
    ·rw[Jd,tV (by omega)]at hw;cases hw
   ·rw[gD.1 hw];exact hv
structure qI(M:aG)(T:Nat→Int→Option Shape)(F:List (List Int))(t0:Tk)(r:Tk×Ls)(zs:List Int):Prop where
 oR:rC M T F t0 zs
 tk:bQ r.1=bI M t0 zs
 bX:∀b,b<M.boxes.length→r.2.bX.getD b 0=(dR b (dD M t0 zs)).length
 bM:∀b,b<M.boxes.length→r.2.bM.getD b []=snd b (dD M t0 zs)
section
variable{M:aG}{T:Nat→Int→Option Shape}(hC:dF M T){F:List (List Int)}(hF:sH M F)
include hC hF
theorem qI.step{k:Nat}(hk:k<(tasks M).length){r:Tk×Ls}(hg:Good M T (xZ M F) r){zs:List Int}(h:qI M T F (new M ((tasks M).getD k 0)) r zs):∃zs',qI M T F (new M ((tasks M).getD k 0)) (step (lists F) M r).2 zs':=by
 by_cases h1:(look (lists F) M r).1.st=1
 ·obtain⟨h3, -,h27⟩:=R4 h1;have hn:bQ r.1={r.1 with st:=1,bx:=0}:=by unfold bQ;rw[if_pos h3]
  have hl:look (lists F) M r=(bQ r.1,r.2):=by rw[hn];exact KP (r:=r) h3 (fun _=>rfl) h27
  obtain⟨ch,hok⟩:∃ch,Ok M T (bQ r.1) ch:=by
   rcases hg.1 with h|h|h
   ·omega
   ·omega
   ·obtain⟨-,ch,h⟩:=h;exact⟨ch,by rw[hn];exact h.st _ _⟩
  have hst:(bQ r.1).st=1:=by rw[hn]
  have hi:=kV (M:=M) r.1;obtain⟨f1,f2,f3,f4⟩:=h;rw[←hi]at h27;have hx:nT (lists F) M r=if(aV M (bQ r.1)).op=27 then(F.getD (cL M (bQ r.1)) []).getD (r.2.bX.getD (cL M (bQ r.1)) 0) 0 else 0:=by
   unfold nT;rw[hi];simp only[cL,hi];rfl
  rw[vB _ M h1,hl];dsimp only;have hrg:(aV M (bQ r.1)).op=26∨(aV M (bQ r.1)).op=27→0≤(aV M (bQ r.1)).a∧cL M (bQ r.1)<M.boxes.length:=fun o=>by
   rw[f2]at o hok⊢;exact B8 hC hk f1.path ⟨ch,hok⟩ o
  have hlt:(aV M (bQ r.1)).op=27→(dR (cL M (bQ r.1)) (dD M (new M ((tasks M).getD k 0)) zs)).length<(F.getD (cL M (bQ r.1)) []).length:=fun o=>by
   have he:=h27 o;have hb:=(hrg (.inr o)).2;have h5:=of_decide_eq_false he;have h6:=hg.2.K.le _ hb;have h7:=f3 _ hb;have h5:¬r.2.bX.getD (cL M (bQ r.1)) 0=(F.getD (cL M (bQ r.1)) []).length:=h5;omega
  have hx':nT (lists F) M r=if(aV M (bQ r.1)).op=27 then(F.getD (cL M (bQ r.1)) []).getD (dR (cL M (bQ r.1)) (dD M (new M ((tasks M).getD k 0)) zs)).length 0 else 0:=by
   rw[hx]
   split
   ·rename_i o
    rw[f3 _ (hrg (.inr o)).2]
   ·rfl
  generalize nT (lists F) M r=x at *;have hbx:=(wW M (x:=x) (t:=bQ r.1) (by omega)).OY.ex;refine⟨zs ++[x], .step f1 (by rw[←f2];exact hst) ⟨ch,by rw[←f2];exact hok⟩ (by rw[←f2];exact hlt) x (by rw[←f2];exact hx'),?_,fun b hb=>?_,fun b hb=>?_⟩
  ·rw[uV,yV,←f2];rfl
  ·rw[kT,yQ,xB,←f2,Jl,←f3 b hb];show(List.foldl (gB (lists F)) r.2 _).bX.getD b 0=_+(dR b (kJ M x (bQ r.1)).2).length;rcases hbx with⟨o,v,s1,s2,s3⟩|⟨o,s1,s2,s3⟩|⟨o,o',s1,s2,s3⟩
   ·rw[s3 (lists F) (fun _ _=>rfl),s2];rfl
   ·rw[s3 (lists F) (fun _ _=>rfl),s2];have hr:=hrg (.inr o);simp only[cL]at hr;show(r.2.bX.set _ _).getD b 0=_;rw[Q9 (by rw[hg.2.K.bX];exact hr.2)]
    by_cases e:(aV M (bQ r.1)).a.toNat=b
    ·rw[if_pos e,if_pos (by omega),e];rfl
    ·rw[if_neg e,if_neg (by omega)];rfl
   ·rw[s3 (lists F) (fun _ _=>rfl),s2];rfl
  ·rw[kT,yQ,zP,←f2,←f4 b hb];show(List.foldl (gB (lists F)) r.2 _).bM.getD b []=_ ++snd b (kJ M x (bQ r.1)).2;rcases hbx with⟨o,v,s1,s2,s3⟩|⟨o,s1,s2,s3⟩|⟨o,o',s1,s2,s3⟩
   ·rw[s3 (lists F) (fun _ _=>rfl),s1];have hr:=hrg (.inl o);simp only[cL]at hr;show(r.2.bM.set _ _).getD b []=_;rw[rP (by rw[hg.2.K.bM];exact hr.2)]
    by_cases e:(aV M (bQ r.1)).a.toNat=b
    ·rw[if_pos e,if_pos (by omega),e]
    ·rw[if_neg e,if_neg (by omega),eH]
   ·rw[s3 (lists F) (fun _ _=>rfl),s1,eH];rfl
   ·rw[s3 (lists F) (fun _ _=>rfl),s1,eH]
 ·rw[zQ _ M h1];obtain⟨f1,f2,f3,f4⟩:=h;exact⟨zs,f1,by rw[←f2];exact uV _ _,fun b hb=>by rw[kT];exact f3 b hb,fun b hb=>by rw[kT];exact f4 b hb⟩
theorem qI.goes{k:Nat}(hk:k<(tasks M).length):∀(n:Nat) {r:Tk×Ls} (hg:Good M T (xZ M F) r) {zs:List Int} (h:qI M T F (new M ((tasks M).getD k 0)) r zs),∃zs',qI M T F (new M ((tasks M).getD k 0)) (goN (lists F) M n r).2 zs'
 |0,r,hg,zs,h=>⟨zs,h⟩
 |n+1,r,hg,zs,h=>by
  obtain⟨zs',h'⟩:=h.step hC hF hk hg;unfold goN
  split
  ·exact qI.goes hk n (F3 hC (RY hF) hg) h'
  ·exact⟨zs',h'⟩
structure G4(M:aG)(T:Nat→Int→Option Shape)(F:List (List Int))(k:Nat)(r:Tk×Ls)(zs:List Int):Prop where
 at_:qI M T F (cZ M k) r zs
 kQ:xZ M F r.2
 st:r.1.st≠1→(bI M (cZ M k) zs).st=1→r.1.st=3∧(aV M (bI M (cZ M k) zs)).op=27∧(dR (cL M (bI M (cZ M k) zs)) (dD M (cZ M k) zs)).length=(F.getD (cL M (bI M (cZ M k) zs)) []).length
theorem VV{k:Nat}(hk:k<(bZ M).length)(n:Nat):∃zs,G4 M T F k (e6 M ((tasks M).getD k 0) F n).2 zs:=by
 have hk':k<(tasks M).length:=by simpa[bZ]using hk
 obtain⟨hu,hkd⟩:=F9 hk';have hg:Good M T (xZ M F) (new M ((tasks M).getD k 0),Ls.new F.length):=⟨.inr (.inr ⟨show(1:Int)≤3 by decide,[0],E7 hC hu hkd⟩),SQ M F hF,fun l hl v hv=>by
  rw[DC hl]at hv;cases hv⟩
 have hgl:=uQ (V:=lists F) hg;have h0:qI M T F (new M ((tasks M).getD k 0)) (xI M ((tasks M).getD k 0) F) []:=by
  unfold xI;refine⟨.nil,?_,fun b hb=>?_,fun b hb=>?_⟩
  ·rw[uV,SZ];rfl
  ·rw[kT];exact oS _ _ _
  ·rw[kT];exact oS _ _ _
 obtain⟨zs,hz⟩:=qI.goes hC hF hk' n hgl h0;have hgd:Good M T (xZ M F) (e6 M ((tasks M).getD k 0) F n).2:=I2 hC (RY hF) n hgl;have hlk:look (lists F) M (e6 M ((tasks M).getD k 0) F n).2=(e6 M ((tasks M).getD k 0) F n).2:=RB n _ (BR _ M _);have hz:qI M T F (new M ((tasks M).getD k 0)) (e6 M ((tasks M).getD k 0) F n).2 zs:=hz;generalize(e6 M ((tasks M).getD k 0) F n).2=r at *;have e0:cZ M k=new M ((tasks M).getD k 0):=CQ hk;refine⟨zs,by rw[e0];exact hz,hgd.2,fun hne h1=>?_⟩;rw[e0]at h1⊢;rw[←hz.tk]at h1⊢;have h3:r.1.st≤3:=nM fun h=>by
  unfold bQ at h1;rw[if_neg h]at h1;omega
 unfold look waits at hlk;rw[if_pos h3,if_neg (fun h=>absurd h.2 (by simp[lists]))]at hlk;have hi:=kV (M:=M) r.1
 by_cases c:(aV M r.1).op=27∧(lists F).empty r.2 (aV M r.1).a.toNat=true
 ·rw[if_pos c]at hlk;have e:=congrArg (·.1.st) hlk;dsimp only at e;simp only[cL,hi];refine⟨e.symm,c.1,?_⟩;have hb:cL M (bQ r.1)<M.boxes.length:=by
   have hok:∃ch,Ok M T (bQ r.1) ch:=by
    rcases hgd.1 with h|h|h
    ·omega
    ·omega
    ·obtain⟨-,ch,h⟩:=h;refine⟨ch,?_⟩;unfold bQ;rw[if_pos h3];exact h.st _ _
   have:=B8 hC hk' hz.oR.path (by rw[←hz.tk];exact hok) (by rw[←hz.tk,hi];exact .inr c.1);rw[←hz.tk]at this;exact this.2
  simp only[cL,hi]at hb;rw[←hz.bX _ hb];exact of_decide_eq_true c.2
 ·rw[if_neg c]at hlk;have e:=congrArg (·.1.st) hlk;exact absurd e.symm hne
end
def mF(M:aG)(F:List (List Int))(n:Nat):List (List Int):=(List.range M.boxes.length).map fun b=>((tasks M).map fun u=>(e6 M u F n).2.2.bM.getD b []).flatten
theorem IU:∀(l:List (List Int)) (s:Nat),(∀k,k<l.length→k≠s→l.getD k []=[])→l.flatten=l.getD s []
 |[],s,h=>by simp
 |a::l,0,h=>by
  have:l.flatten=l.getD l.length []:=IU l l.length fun k hk _=>h (k+1) (by simpa using hk) (by omega)
  rw[List.flatten_cons,this];simp
 |a::l,s+1,h=>by
  have h0:=h 0 (by simp) (by omega);rw[List.flatten_cons,IU l s fun k hk hs=>h (k+1) (by simpa using hk) (by omega)];have:a=[]:=h0;rw[this];simp
theorem aDz{M:aG}{T:Nat→Int→Option Shape}{t0:Tk}{xs:List Int}(h:Path M T t0 xs):∀p,p<+:xs→(bI M t0 p).out<+:(bI M t0 xs).out:=by
 induction h with
 |nil=>intro p hp;rw[List.prefix_nil.1 hp];exact List.prefix_refl _
 | @step xs h h1 ho x ih=>
  intro p hp;have e:(bI M t0 (xs ++[x])).out=(bI M t0 xs).out ++outs (kJ M x (bI M t0 xs)).2:=by
   rw[yV];unfold iC;rw[LG,(wW M (x:=x) (t:=bI M t0 xs) (by omega)).out];rfl
  rcases List.prefix_concat_iff.1 hp with rfl|hp
  ·exact List.prefix_refl _
  ·rw[e];exact(ih p hp).trans (List.prefix_append _ _)
theorem S0(t:Tk):(bQ t).tr=t.tr:=by unfold bQ;split<;>rfl
section
variable{M:aG}{T:Nat→Int→Option Shape}(hC:dF M T)(hR:sP M){F:List (List Int)}{c:Ma}{xs:Nat→List Int}
def Room(M:aG)(c:Ma):Prop:=∀k,k<(bZ M).length→((c.looked M).ts.getD k default).st≠2
structure rD(M:aG)(c:Ma)(xs:Nat→List Int)(F:List (List Int)):Prop where
 oR:sH M F
 le:Room M c→∀b,b<M.boxes.length→F.getD b []<+:snd b (dD M (cZ M (n9 M b)) (xs (n9 M b)))
theorem rD.init:rD M c xs (List.replicate M.boxes.length []):=
 ⟨⟨AS,fun l hl v hv=>(by rw[DC hl]at hv;cases hv),fun b hb h v hv=>(by rw[oS]at hv;cases hv)⟩,fun _ b hb=>by rw[oS];exact List.nil_prefix⟩
theorem U1(hS:Stood M false c xs)(hr:Rest M (fT M) (bZ M) xs c.bs.ws)(hm:Room M c):∀k,k<(bZ M).length→(bI M (cZ M k) (xs k)).st=1→(aV M (bI M (cZ M k) (xs k))).op≠26:=by
 intro k hk h1 o;have hk':k<c.ts.length:=by rw[hS.len];exact hk
 have e:=hS.tk k hk;have hn:=hr k hk;have h2:=hm k hk;rw[wV hk']at h2;rw[←e]at h1 o hn;generalize c.ts.getD k default=t at *;have h3:t.st≤3:=nM fun h=>by unfold bQ at h1;rw[if_neg h]at h1;omega
 refine hn ⟨h1,fun _ hf=>h2 ?_,fun o'=>by omega⟩;simp only[cL,kV]at hf o;unfold look waits;rw[if_pos h3,if_pos ⟨o,decide_eq_true hf⟩]
include hC hR
theorem P8(hF:sH M F)(n:Nat):∃zs:Nat→List Int,(∀k,k<(bZ M).length→G4 M T F k (e6 M ((tasks M).getD k 0) F n).2 (zs k))∧(∀k,(bZ M).length≤k→zs k=[])∧
  ∀b,b<M.boxes.length→(mF M F n).getD b []=snd b (dD M (cZ M (n9 M b)) (zs (n9 M b))):=by
 have hz:∀k,∃z,(k<(bZ M).length→G4 M T F k (e6 M ((tasks M).getD k 0) F n).2 z)∧((bZ M).length≤k→z=[]):=fun k=>by
  by_cases hk:k<(bZ M).length
  ·obtain⟨z,h⟩:=VV hC hF hk n;exact⟨z,fun _=>h,fun h=>by omega⟩
  ·exact⟨[],fun h=>absurd h hk,fun _=>rfl⟩
 obtain⟨zs,hs⟩:=Classical.skolem.1 hz;refine⟨zs,fun k hk=>(hs k).1 hk,fun k hk=>(hs k).2 hk,fun b hb=>?_⟩;have hl:(bZ M).length=(tasks M).length:=by simp[bZ]
 have ha:∀k,k<(tasks M).length→((tasks M).map fun u=>(e6 M u F n).2.2.bM.getD b []).getD k []=snd b (dD M (cZ M k) (zs k)):=fun k hk=>by
  rw[←((hs k).1 (by omega)).at_.bM b hb,Jd,JU,Je hk];simp[Jd,Je hk]
 have e:(mF M F n).getD b []=((tasks M).map fun u=>(e6 M u F n).2.2.bM.getD b []).flatten:=by
  unfold mF;rw[Jd,JU,List.getElem?_range hb];rfl
 rw[e,IU _ (n9 M b) fun k hk hne=>?_]
 ·by_cases hk:n9 M b<(tasks M).length
  ·exact ha _ hk
  ·rw[Jd,tV (by simpa using hk),(hs _).2 (by omega)];rfl
 ·have hk:k<(tasks M).length:=by simpa using hk
  rw[ha k hk];have hp:=((hs k).1 (by omega)).at_.oR.path;have e0:cZ M k=new M ((tasks M).getD k 0):=CQ (by omega);rw[e0]at hp⊢;exact(L0 hC hR hk hp b).1 hne
theorem rD.next(hS:Stood M false c xs)(hr:Rest M (fT M) (bZ M) xs c.bs.ws)(h:rD M c xs F)(n:Nat):rD M c xs (mF M F n):=by
 obtain⟨zs,h1,h2,h3⟩:=P8 hC hR h.oR n;have hlen:(mF M F n).length=M.boxes.length:=by simp[mF]
 have hat:∀b,b<M.boxes.length→(mF M F n).getD b []=[]∨∃k,k<(bZ M).length∧(mF M F n).getD b []=(e6 M ((tasks M).getD k 0) F n).2.2.bM.getD b []:=fun b hb=>by
  by_cases hk:n9 M b<(bZ M).length
  ·exact .inr ⟨_,hk,by rw[h3 b hb,(h1 _ hk).at_.bM b hb]⟩
  ·left;rw[h3 b hb,h2 _ (by omega)];rfl
 refine⟨⟨hlen,fun l hl v hv=>?_,fun b hb=>?_⟩,fun hm b hb=>?_⟩
 ·obtain⟨b,hb,rfl⟩:=mS hl;rw[hlen]at hb;have e:(mF M F n)[b]=(mF M F n).getD b []:=by rw[Jd,Je (by omega)];rfl
  rw[e]at hv;rcases hat b hb with h0|⟨k,hk,h0⟩
  ·rw[h0]at hv;cases hv
  ·rw[h0]at hv;exact(h1 k hk).kQ.iJ _ (IM (by rw[(h1 k hk).kQ.K.bM];exact hb)) v hv
 ·rcases hat b hb with h0|⟨k,hk,h0⟩
  ·rw[h0];intro _ v hv;cases hv
  ·rw[h0];exact(h1 k hk).kQ.K.gK b hb
 ·rw[h3 b hb]
  by_cases hk:n9 M b<(bZ M).length
  ·exact UA (T9 (QR hC hR hS.runs hr (U1 hS hr hm) (h.le hm) hk (h1 _ hk).at_.oR))
  ·rw[h2 _ (by omega)];exact List.nil_prefix
theorem aBN(hS:Stood M false c xs)(hr:Rest M (fT M) (bZ M) xs c.bs.ws)(h:rD M c xs F){n:Nat}(hfix:mF M F n=F)(hn:∀k,k<(bZ M).length→(e6 M ((tasks M).getD k 0) F n).2.1.st≠1){k:Nat}(hk:k<(bZ M).length):
  ((c.looked M).ts.getD k default).out<+:(e6 M ((tasks M).getD k 0) F n).2.1.out∧(Room M c→((c.looked M).ts.getD k default).out=(e6 M ((tasks M).getD k 0) F n).2.1.out∧
   ((c.looked M).ts.getD k default).st=(e6 M ((tasks M).getD k 0) F n).2.1.st∧((c.looked M).ts.getD k default).tr=(e6 M ((tasks M).getD k 0) F n).2.1.tr):=by
 obtain⟨zs,h1,h2,h3⟩:=P8 hC hR h.oR n;rw[hfix]at h3;have hp:=aBO hC hR (fun k hk=>(h1 k hk).at_.oR) h3 (fun k hk ho=>((h1 k hk).st (hn k hk) ho).2) hS.runs k;have hz:=h1 k hk;have hnk:=hn k hk;have hk':k<c.ts.length:=by rw[hS.len];exact hk
 have ho:(e6 M ((tasks M).getD k 0) F n).2.1.out=(bI M (cZ M k) (zs k)).out:=by rw[←hz.at_.tk,LG]
 rw[aCZ hS hk',ho];refine⟨aDz hz.at_.oR.path _ hp,fun hm=>?_⟩;have hq:=QR hC hR hS.runs hr (U1 hS hr hm) (h.le hm) hk hz.at_.oR;have e:xs k=zs k:=List.IsPrefix.eq_of_length hp (Nat.le_antisymm hp.length_le hq.length_le);have hrd:=aEj hC hR hS hr hk';have hrm:=hm k hk;have hl:bQ ((c.looked M).ts.getD k default)=bQ (e6 M ((tasks M).getD k 0) F n).2.1:=by
  rw[wV hk',uV,hS.tk k hk,hz.at_.tk,e]
 have hst:=hz.st hnk;rw[←hz.at_.tk]at hst;generalize(c.looked M).ts.getD k default=t at *;generalize(e6 M ((tasks M).getD k 0) F n).2.1=t' at *;refine⟨by rw[e],?_,by rw[←S0 t,hl,S0]⟩
 by_cases h3:t.st≤3
 ·have e1:(bQ t').st=1:=by rw[←hl];unfold bQ;rw[if_pos h3]
  rw[(hst e1).1];rcases hrd with h|h|h|h
  ·omega
  ·omega
  ·exact absurd h.1 hrm
  ·exact h.1
 ·have e1:(bQ t).st=t.st:=by unfold bQ;rw[if_neg h3]
  by_cases h4:t'.st≤3
  ·have e2:(bQ t').st=1:=by unfold bQ;rw[if_pos h4]
   rw[hl]at e1;omega
  ·have e2:(bQ t').st=t'.st:=by unfold bQ;rw[if_neg h4]
   rw[←e1,hl,e2]
end
def lX(M:aG)(F:List (List Int))(n k:Nat):List (List Int):=(List.range M.boxes.length).map fun b=>(((tasks M).take k).map fun u=>(e6 M u F n).2.2.bM.getD b []).flatten
def oA(M:aG)(F:List (List Int))(n k i:Nat):List (List Int):=(List.range M.boxes.length).map fun b=>if b<i then(lX M F n (k+1)).getD b []else(lX M F n k).getD b []
section
variable{M:aG}{F:List (List Int)}{n k i:Nat}
theorem D6{f:Nat→List Int}{nb b:Nat}(h:b<nb):((List.range nb).map f).getD b []=f b:=by
 rw[Jd,JU,List.getElem?_range h];rfl
theorem DW{l:List (List Int)}{nb:Nat}{f:Nat→List Int}(hl:l.length=nb)(h:∀b,b<nb→l.getD b []=f b):l=(List.range nb).map f:=by
 apply mT
 ·simp[hl]
 ·intro b h1 h2;have:=h b (by omega);rw[Jd,Je h1]at this;simpa using this
theorem MQ:(lX M F n k).length=M.boxes.length:=by simp[lX]
theorem aFT:(oA M F n k i).length=M.boxes.length:=by simp[oA]
theorem VJ:lX M F n 0=List.replicate M.boxes.length []:=by
 unfold lX;exact(DW (by simp) fun b hb=>by rw[oS];simp).symm
theorem aFW:lX M F n (tasks M).length=mF M F n:=by
 unfold lX mF;rw[l4]
theorem VI{b:Nat}(hk:k<(tasks M).length)(hb:b<M.boxes.length):(lX M F n (k+1)).getD b []=(lX M F n k).getD b [] ++(e6 M ((tasks M).getD k 0) F n).2.2.bM.getD b []:=by
 unfold lX;rw[D6 hb,D6 hb,Jp hk,Jq,List.flatten_append];simp[Jd,Je hk]
theorem aFV:oA M F n k 0=lX M F n k:=by
 unfold oA;exact(DW MQ fun b hb=>by rw[if_neg (by omega)]).symm
theorem aFS:oA M F n k M.boxes.length=lX M F n (k+1):=by
 unfold oA;exact(DW MQ fun b hb=>by rw[if_pos hb]).symm
theorem VG(hi:i<M.boxes.length):(oA M F n k i).getD i []=(lX M F n k).getD i []:=by
 unfold oA;rw[D6 hi,if_neg (by omega)]
theorem aFU(hk:k<(tasks M).length)(hi:i<M.boxes.length):oA M F n k (i+1)=(oA M F n k i).set i ((oA M F n k i).getD i [] ++(e6 M ((tasks M).getD k 0) F n).2.2.bM.getD i []):=by
 rw[VG hi,←VI hk hi]
 symm
 unfold oA;refine DW (by simp) fun b hb=>?_
 rw[Jd,pI]
 by_cases h:i=b
 ·subst h;rw[if_pos rfl,if_pos (by simpa using hi),if_pos (by omega)];rfl
 ·rw[if_neg h,←Jd,D6 hb]
  by_cases h2:b<i
  ·rw[if_pos h2,if_pos (by omega)]
  ·rw[if_neg h2,if_neg (by omega)]
end
section
variable{M:aG}{F:List (List Int)}
theorem RC:∀(n:Nat) (s:Tk×Ls),total (goN (lists F) M n s).2.2.bM≤total s.2.bM+4*n
 |0,s=>by unfold goN;exact cG _
 |n+1,s=>by
  have h1:=F4 (sz:=fun s:Ls=>total s.bM) (V:=lists F) (M:=M) (fun v b x=>GF v.bM b x) (fun v b=>l6 _) (fun v x=>l6 _) s;unfold goN
  split
  ·have h2:=RC n (step (lists F) M s).2;dsimp only at h2⊢;omega
  ·dsimp only;omega
theorem WQ:∀n:Nat,total (List.replicate n ([]:List Int))=0
 |0=>rfl
 |n+1=>by
  have:=WQ n;unfold total at this⊢;rw[List.replicate_succ,eG,List.sum_cons,this];rfl
theorem aFj(u n:Nat):total (e6 M u F n).2.2.bM≤4*n:=by
 have h:=RC (F:=F) (M:=M) n (xI M u F);have h0:total (xI M u F).2.bM=0:=by
  unfold xI;rw[kT];exact WQ _
 unfold e6;omega
theorem VW(u n b:Nat):((e6 M u F n).2.2.bM.getD b []).length≤4*n:=dO (NG _ b) (aFj u n)
theorem VH{n b:Nat}(hb:b<M.boxes.length):∀k,k≤(tasks M).length→((lX M F n k).getD b []).length≤4*n*k
 |0,_=>by rw[VJ,oS];exact bP _
 |k+1,hk=>by
  have h1:=VH (n:=n) hb k (by omega);have h2:=VW (M:=M) (F:=F) ((tasks M).getD k 0) n b;rw[VI (by omega) hb,Jl,Nat.mul_succ];omega
theorem aBE(hv:verify M= .ok)(hF:sH M F){k:Nat}(hk:k<(tasks M).length):u9 M (k:Int) F 5000=0:=by
 unfold u9;rw[hv,if_neg (fun h=>h rfl),if_neg (by omega),if_neg (fun h=>h hF.len),if_neg];intro h;obtain⟨i,hi,h⟩:=qD.1 h;obtain⟨v,hv,h⟩:=qD.1 h;have hi:i<M.boxes.length:=by have:=nN.1 hi;have:=hF.len;omega
 unfold pO at h;simp only[JX,JV]at h;have:=hF.gK i hi h.1 v hv;omega
end
end Vm
namespace Vw
open Go.RowKit Img
section
attribute [local irreducible] aE aB End aA Still aM aP RunT Fn aO
structure oL where
 lb:Nat
 tb:Nat
 sb:Nat
structure gE where
 bX:List Nat
 bM:List Rw
abbrev KS(p:oL)(f:FL):List Value:=[.slice f.o f.l.length f.c, .slice (some ⟨p.tb,0,none⟩) f.l.length f.l.length, .slice (some ⟨p.sb,0,none⟩) f.l.length f.l.length]
abbrev ES(p:oL)(f:FL)(e:gE):List Chunk:=[aD p.lb (KS p f) 94,arr (some ⟨p.tb,0,none⟩) f.l.length f.l.length 3 eC e.bX,arr (some ⟨p.sb,0,none⟩) f.l.length f.l.length 39 cW e.bM,aR (e.bM.map (gI 2))]
def pV(p:oL)(f:FL)(e:gE):Chunk:=aR (ES p f e)
theorem BS(p:oL)(f:FL)(e:gE):(pV p f e).bB=true:=jT
theorem aC7(p:oL)(f:FL)(e:gE):∀c∈ES p f e,c.bB=true:=by simp[kG,dX,jT]
theorem Mem.ET{w:World}{L L':List Chunk}{p:oL}{f:FL}{e:gE}(h:Mem w L)(t:Take (pV p f e) L L'):Mem w (ES p f e ++L'):=(h.take t).unpack
theorem Mem.ER{w:World}{L L':List Chunk}{p:oL}{f:FL}{e:gE}(h:Mem w L)(t:aQ (ES p f e) L L'):Mem w (pV p f e::L'):=(h.aS t).pack (aC7 p f e)
structure pK(f:FL)(e:gE):Prop where
 bX:e.bX.length=f.l.length
 bM:e.bM.length=f.l.length
 le:∀b,b<f.l.length→e.bX.getD b 0≤(f.l.getD b default).l.length
def gE.abs(e:gE):Vm.Ls:=⟨e.bX,e.bM.map (·.l)⟩
theorem Q8(l:List Nat)(b:Nat):l.getD b default=l.getD b 0:=rfl
theorem aC6(p:oL)(f:FL)(e:gE)(b:Nat):Fn Tryz.prog 235 #[ptr p.lb, .int .i64 (b:Int)] [fd f] [pV p f e] (σ:=Unit) (fun _=>True) (fun _=> .bool false) (fun _=>[pV p f e]):=by
 refine Fn.enter (args:=[ptr p.lb, .int .i64 (b:Int)]) Tryz.func235 rfl _ Tryz.ntmps235 rfl (by simp[m6]) (fun w S=>?_);(refine Jn ?_)
 repeat(refine Jy ?_)
 refine End.aH () (he:=by rfl) (hp:=trivial) (hx:=by simp[BS])
theorem aCa{f:FL}{bX:List Nat}{s u:List Rw}{r r':Rw}{v:Int}(h:pK f ⟨bX,s ++r::u⟩)(hr:r'.l=r.l ++[v]):pK f ⟨bX,s ++r'::u⟩∧(gE.abs ⟨bX,s ++r'::u⟩)=(Vm.lists f.ws).put (gE.abs ⟨bX,s ++r::u⟩) s.length v:=by
 obtain⟨h1,h2,h3⟩:=h;refine⟨⟨h1,by simpa using h2,h3⟩,?_⟩;unfold gE.abs Vm.lists;simp only[Vm.Ls.mk.injEq,true_and,oT,BJ];rw[←hr];have e:=CM (s.map (·.l)) (u.map (·.l)) r.l r'.l;simp only[Jf]at e;simp only[Jq,eG];exact e.symm
theorem aCb{f:FL}{bX:List Nat}{bM:List Rw}{b:Nat}(h:pK f ⟨bX,bM⟩)(hb:b<f.l.length)(hne:bX.getD b 0≠(f.l.getD b default).l.length):pK f ⟨bX.set b (bX.getD b 0+1),bM⟩∧(gE.abs ⟨bX.set b (bX.getD b 0+1),bM⟩)=((Vm.lists f.ws).take (gE.abs ⟨bX,bM⟩) b).2:=by
 obtain⟨h1,h2,h3⟩:=h;refine⟨⟨by simpa using h1,h2,fun j hj=>?_⟩,rfl⟩;simp only at h1 h3;have:=h3 j hj;simp only[Jd,pI]at this hne⊢
 by_cases hj':b=j
 ·subst hj';rw[if_pos rfl,if_pos (by omega)];simp only[JZ];omega
 ·rw[if_neg hj'];exact this
theorem aC5(p:oL)(f:FL)(e:gE)(he:pK f e)(b:Nat)(hb:b<f.l.length):Fn Tryz.prog 234 #[ptr p.lb, .int .i64 (b:Int)] [fd f] [pV p f e] (σ:=Unit) (fun _=>True) (fun _=> .bool ((Vm.lists f.ws).empty e.abs b)) (fun _=>[pV p f e]):=by
 obtain⟨h1,h2,h3⟩:=he;refine Fn.enter (args:=[ptr p.lb, .int .i64 (b:Int)]) Tryz.func234 rfl _ Tryz.ntmps234 rfl (by simp[m6]) (fun w S=>?_);(refine Jn ?_);apply aB.imp (fun w hm=>Mem.ET hm (tk));apply aB.imp (fun w hm=>Mem.yE (tk) hm)
 repeat(refine Jy ?_)
 apply End.imp (fun w hm=>Mem.ER (p:=p) (f:=f) (e:=e) hm (aK));refine End.aH () (he:=?_) (hp:=trivial) (hx:=by simp[BS]);refine iP ?_;unfold Vm.lists gE.abs;simp only[oT,Q8];exact decide_eq_decide.2 (by omega)
theorem aCc(p:oL)(f:FL)(e:gE)(he:pK f e)(b:Nat)(hb:b<f.l.length)(v:Int)(hs:Vm.total (e.bM.map (·.l))≤2000000):Fn Tryz.prog 236 #[ptr p.lb, .int .i64 (b:Int), .int .i64 v] [fd f] [pV p f e] (σ:=gE) (fun e'=>pK f e'∧e'.abs=(Vm.lists f.ws).put e.abs b v) (fun _=> .tuple #[]) (fun e'=>[pV p f e']):=by
 have he':=he;obtain⟨h1,h2,h3⟩:=he;have htot:=Vm.NG (e.bM.map (·.l)) b;rw[oT]at htot;obtain⟨bX,bM⟩:=e;simp only at h1 h2 h3 hs htot;obtain⟨s1,u1,hsp,hlen⟩:=MV (l:=bM) (k:=b) (by omega);obtain⟨r,hr⟩:∃r,r=bM.getD b default:=⟨_,rfl⟩;rw[←hr]at hsp htot;subst hsp;subst hlen;refine Fn.enter (args:=[ptr p.lb, .int .i64 (s1.length:Int), .int .i64 v]) Tryz.func236 rfl _ Tryz.ntmps236 rfl (by simp[m6]) (fun w S=>?_);(refine Jn ?_);apply aB.imp (fun w hm=>Mem.ET hm (tk));apply aB.imp (fun w hm=>Mem.U3 hm (tk));have hgr:(s1 ++r::u1).getD s1.length default=r:=BJ _ _ _;apply aB.draw 16 ([aD p.lb (KS p f) 94,arr (some ⟨p.sb,0,none⟩) f.l.length f.l.length 39 cW (s1 ++r::u1)]) (by kernel_rfl) 17 rfl;refine JR 0 ?_;refine JR 1 ?_;refine JR 2 ?_;refine JR 3 ?_;refine JR 4 ?_;refine JR 5 ?_;refine JR 6 ?_;refine JR 7 ?_;refine JR 8 ?_;refine JR 9 ?_;refine JR 10 ?_;refine JR 11 ?_;refine JR 12 ?_;rw[hgr];(refine JT 13 ?_;(refine Jb ?_;intro b);refine JG ?_);(refine JT 14 ?_;refine aA.jL (a:=v) (k:=?_);intro ao cap;refine JG ?_;(refine Jn ?_));refine JR 15 ?_;(refine JT 16 ?_;refine aA.iG (f:=cW) (l:=s1 ++r::u1) (i:=s1.length) (off:=0) (vs:=[.slice ao (r.l.length+1) cap]) (a':=(⟨ao,cap,r.l ++[v]⟩:Rw)) (hp:=by rw[hgr,show cW ⟨ao,cap,r.l ++[v]⟩=[.slice ao (r.l.length+1) cap] by simp[cW]];exact Put.take .done) (k:=?_);refine JG ?_);rw[CM];(apply RunT.done;kernel_rfl)
 repeat(refine Jy ?_)
 have hle:(r.l ++[v]).length=r.l.length+1:=by simp
 rw[←hle];apply End.imp (fun w hm=>Mem.U2 (r:=⟨ao,cap,r.l ++[v]⟩) hm (tk) (aK));apply End.imp (fun w hm=>Mem.ER (p:=p) (f:=f) (e:=⟨bX,s1 ++⟨ao,cap,r.l ++[v]⟩::u1⟩) hm (aK));refine End.cY (⟨bX,s1 ++⟨ao,cap,r.l ++[v]⟩::u1⟩:gE) (hp:=aCa he' rfl) (hx:=by simp[BS])
theorem aCd(p:oL)(f:FL)(e:gE)(he:pK f e)(b:Nat)(hb:b<f.l.length)(hne:e.bX.getD b 0≠(f.l.getD b default).l.length):Fn Tryz.prog 237 #[ptr p.lb, .int .i64 (b:Int)] [fd f] [pV p f e] (σ:=gE) (fun e'=>pK f e'∧e'.abs=((Vm.lists f.ws).take e.abs b).2) (fun _=> .int .i64 ((Vm.lists f.ws).take e.abs b).1) (fun e'=>[pV p f e']):=by
 have he':=he;obtain⟨h1,h2,h3⟩:=he;have h3b:=h3 b hb;obtain⟨bX,bM⟩:=e;simp only at h1 h2 h3b hne;refine Fn.enter (args:=[ptr p.lb, .int .i64 (b:Int)]) Tryz.func237 rfl _ Tryz.ntmps237 rfl (by simp[m6]) (fun w S=>?_);(refine Jn ?_);apply aB.fact ((f.l.getD b default).l.length≤9223372036854775807) (fun w hm=>(yF.1 (hm.has (tk))).small.2 b hb);intro hsm;apply aB.imp (fun w hm=>Mem.ET hm (tk));apply aB.imp (fun w hm=>Mem.yE (tk) hm);apply aB.imp (fun w hm=>Mem.BG hb (tk) hm);have w1:IntKind.i64.wrap (((bX.getD b default:Nat):Int)+1)=((bX.getD b 0+1:Nat):Int):=by rw[Q8,dA (by omega)];omega
 have w2:IntKind.i64.wrap (((bX.getD b 0+1:Nat):Int)-1)=((bX.getD b 0:Nat):Int):=by rw[dA (by omega)];omega
 have hg:(bX.set b (bX.getD b 0+1)).getD b default=bX.getD b 0+1:=by
  simp only[Jd,pI];rw[if_pos trivial,if_pos (by omega)];rfl
 repeat(refine Jy ?_)
 (apply aE.op;exact rfl;refine aA.iG (f:=eC) (l:=bX) (i:=b) (off:=0) (vs:=[.int .i64 ((bX.getD b 0+1:Nat):Int)]) (a':=bX.getD b 0+1) (k:=?_))
 repeat(refine Jy ?_)
 rw[hg];obtain⟨q1,q2⟩:=aCb he' hb hne;apply End.imp (fun w hm=>Mem.ER (p:=p) (f:=f) (e:=⟨bX.set b (bX.getD b 0+1),bM⟩) hm (aK));refine End.aH (⟨bX.set b (bX.getD b 0+1),bM⟩:gE) (he:=?_) (hp:=⟨q1,q2⟩) (hx:=by simp[BS]);unfold Vm.lists gE.abs;simp only[oT];rw[show(((bX.getD b 0+1:Nat):Int)-1).toNat=bX.getD b 0 by omega];rfl
@[reducible] def qR (p : oL) (f : FL) : cN where
 μ:=gE
 ν:=Vm.Ls
 V:=Vm.lists f.ws
 abs:=gE.abs
 ok:=pK f
 mem:=pV p f
 size s:=Vm.total s.bM
 tK s b v:=Vm.GF s.bM b v
 rW s b:=l6 _
 o4 s e:=l6 _
 bB:=BS p f
 rc:=fd f
 dJ:=m6
 T:=92
 rv:=ptr p.lb
 told:=none
 boxes:=f.l.length
 BD:=235
 BC:=234
 BE:=236
 BF:=237
 KV:=uO (ptr:=true) (by kernel_rfl) (D0 Tryz.underlying92)
 KU:=uO (ptr:=true) (by kernel_rfl) (D0 Tryz.underlying92)
 KW:=uO (ptr:=true) (by kernel_rfl) (D0 Tryz.underlying92)
 KX:=uO (ptr:=true) (by kernel_rfl) (D0 Tryz.underlying92)
 HI:=by kernel_rfl
 HH:=by kernel_rfl
 HJ:=by kernel_rfl
 HK:=by kernel_rfl
 full e b he hb:=aC6 p f e b
 empty e b he hb:=aC5 p f e he b hb
 put e b v he hb _ hs:=aCc p f e he b hb v hs
 take e b he hb hne:=aCd p f e he b hb (fun h=>by
  have hne':decide (e.bX.getD b 0=(f.ws.getD b []).length)=false:=hne;rw[oT,JY]at hne';exact hne' h)
 tell v x:=rfl
structure dP where
 st:Int
 bx:Int
 tr:Int
 oo:Option Addr
 oc:Nat
 out:List Int
 so:Option Addr
 sc:Nat
 bM:List Rw
 ko:Option Addr
 kc:Nat
 bX:List Nat
 steps:Nat
abbrev dP.cells(r:dP):List Value:=[.int .i64 r.st, .int .i64 r.bx, .int .i64 r.tr, .slice r.oo r.out.length r.oc, .slice r.so r.bM.length r.sc, .slice r.ko r.bX.length r.kc, .int .i64 (r.steps:Int)]
abbrev dP.mem(r:dP):List Chunk:=[arr r.oo r.out.length r.oc 2 aT r.out,arr r.so r.bM.length r.sc 39 cW r.bM,aR (r.bM.map (gI 2)),arr r.ko r.bX.length r.kc 3 eC r.bX]
def dP.zero:dP:=⟨0,0,0,none,0,[],none,0,[],none,0,[],0⟩
structure dP.Is(r:dP)(s:Nat×(Vm.Tk×Vm.Ls)):Prop where
 st:r.st=s.2.1.st
 bx:r.bx=s.2.1.bx
 tr:r.tr=s.2.1.tr
 out:r.out=s.2.1.out
 bM:r.bM.map (·.l)=s.2.2.bM
 bX:r.bX=s.2.2.bX
 steps:r.steps=s.1
def W5(m:ML)(task:Int):Nat:=(Vm.tasks m.aC).getD task.toNat 0
def AP(m:ML)(f:FL)(task fV:Int)(r:dP):Prop:=
 if Vm.u9 m.aC task f.ws fV=0 then r.Is (Vm.e6 m.aC (W5 m task) f.ws fV.toNat)else r=dP.zero
theorem Mem.MI{w:World}{L:List Chunk}(t:TypeId)(n:Nat)(h:Mem w L):Mem w (aR ((List.replicate n (⟨none,0,[]⟩:Rw)).map (gI t))::L):=by
 have key:∀n:Nat,Mem w ((List.replicate n (⟨none,0,[]⟩:Rw)).map (gI t) ++L):=fun n=>by
  induction n with
  |zero=>exact h
  |succ n ih=>rw[List.replicate_succ,eG];exact ih.bY t aT
 exact(key n).pack (fun c hc=>by
  obtain⟨r, -,rfl⟩:=fD.1 hc;exact dX)
def rU(m:ML)(f:FL)(k:Nat):Bool:=(f.l.getD k default).l.any (Vm.pO (m.bx.getD k default).1)
theorem aBF{m:ML}{f:FL}(h5:f.l.length=m.bx.length)(h64:∀l∈f.ws,∀v∈l,ImgM.bG v)(hg:∀k,k<f.l.length→rU m f k=false):Vm.sH m.aC f.ws:=by
 refine⟨by simpa using h5,h64,fun b hb h2 v hv=>?_⟩;have:=hg b (by rw[h5];exact hb);rw[oT]at hv;unfold rU at this;rw[tX]at this;have:=this v hv;unfold Vm.pO at this;have h2':(m.bx.getD b default).1=2:=h2;rw[h2']at this;simp only[decide_true,sM,JX,JV]at this;omega
theorem aC9(f:FL):pK f ⟨List.replicate f.l.length 0,List.replicate f.l.length ⟨none,0,[]⟩⟩:=⟨by simp,by simp,fun b hb=>by rw[Vm.oS];exact bP _⟩
theorem aC8(f:FL):gE.abs ⟨List.replicate f.l.length 0,List.replicate f.l.length ⟨none,0,[]⟩⟩=Vm.Ls.new f.ws.length:=by
 unfold gE.abs Vm.Ls.new;simp
theorem aEq{n:Nat}{p:Nat→Bool}(h:∀k,k<n→p k=false):(List.range n).any p=false:=by
 rw[tX];intro k hk;rw[nN]at hk;rw[h k hk];simp
theorem YX{l:List Int}{p:Int→Bool}{k:Nat}(h:k<l.length)(hp:p (l.getD k default)=true):l.any p=true:=by
 rw[qD];refine⟨_,?_,hp⟩;rw[Jd,Je h];exact fB h
theorem Y3{m:ML}{f:FL}:((List.range f.ws.length).any fun i=>(f.ws.getD i []).any (Vm.pO (m.aC.boxes.getD i default).1))=(List.range f.l.length).any (rU m f):=by
 simp only[FL.ws,Jf];congr 1
 funext i
 rw[oT];rfl
theorem aFh{m:ML}{f:FL}{task fV:Int}(hv:Ver.verify m.aC= .ok):Vm.u9 m.aC task f.ws fV=if task<0∨((Vm.tasks m.aC).length:Int)≤task∨fV<0∨5000<fV then 3
 else if f.l.length≠m.bx.length then 5 else if(List.range f.l.length).any (rU m f)then 9 else 0:=by
 unfold Vm.u9;rw[if_neg (by rw[hv];exact fun h=>h rfl),Y3,show f.ws.length=f.l.length by simp]
set_option maxHeartbeats 4000000 in
theorem aFi(m:ML)(hwf:m.Wf)(f:FL)(h64:∀l∈f.ws,∀v∈l,ImgM.bG v)(task fV:Int):
  Fn Tryz.prog 10 #[m.val, .int .i64 task,f.val, .int .i64 fV] [md m,fd f] [] (σ:=dP) (AP m f task fV) (fun r=> .tuple #[.agg r.cells.toArray, .int .i64 (Vm.u9 m.aC task f.ws fV)]) dP.mem:=by
 obtain⟨er,her⟩:∃er,er=Vm.u9 m.aC task f.ws fV:=⟨_,rfl⟩;rw[←her];have hbad:er≠0→AP m f task fV dP.zero:=fun h=>by unfold AP;rw[if_neg (by rw[←her];exact h)]
 refine Fn.enter (args:=[m.val, .int .i64 task,f.val, .int .i64 fV]) Tryz.func10 rfl _ Tryz.ntmps10 rfl (by simp[m6,m9]) (fun w S=>?_);(refine Jn ?_);apply aB.fact m.Small (fun w hm=>(nW.1 (hm.has (tk))).small);intro hsm;apply aB.fact (f.l.length≤9223372036854775807∧∀k,k<f.l.length→(f.l.getD k default).l.length≤9223372036854775807) (fun w hm=>(yF.1 (hm.has (tk))).small);intro hfs
 repeat(refine Jy ?_;try intro b)
 obtain⟨rb,rfl⟩:∃x,x=b:=⟨_,rfl⟩;(refine JQ (XH m hwf) ?_;intro s hs;(refine Jn ?_))
 by_cases hv:Ver.verify m.aC= .ok
 ·rw[hv];have her0:=her;rw[aFh hv]at her;have hF:=formed (Ver.AG.1 hv).form;have hu30:=hF.aL;have hb30:=hF.boxes
  repeat(refine Jy ?_;try intro b)
  obtain⟨wb,rfl⟩:∃x,x=b:=⟨_,rfl⟩;obtain⟨mb,rfl⟩:∃x,x=b:=⟨_,rfl⟩;(refine JQ (WC mb m (by omega)) ?_;intro s hs;(refine Jn ?_));obtain⟨ko,kc⟩:=s;have htl:(Vm.tasks m.aC).length≤30:=by
   rw[zS];have:=zT m m.us.length;omega
  by_cases h3:task<0∨((Vm.tasks m.aC).length:Int)≤task∨fV<0∨5000<fV
  ·rw[if_pos h3]at her;subst her
   by_cases c1:task<0
   ·repeat(refine Jy ?_)
    apply End.imp (fun w hm=>(((hm.eX).bY 2 aT).bY 39 cW).bY 3 eC);(refine End.dK (dP.zero) (he:=Jv) (hp:=?_));exact hbad (by omega)
   by_cases c2:((Vm.tasks m.aC).length:Int)≤task
   ·repeat(refine Jy ?_)
    apply End.imp (fun w hm=>(((hm.eX).bY 2 aT).bY 39 cW).bY 3 eC);(refine End.dK (dP.zero) (he:=Jv) (hp:=?_));exact hbad (by omega)
   by_cases c3:fV<0
   ·repeat(refine Jy ?_)
    apply End.imp (fun w hm=>(((hm.eX).bY 2 aT).bY 39 cW).bY 3 eC);(refine End.dK (dP.zero) (he:=Jv) (hp:=?_));exact hbad (by omega)
   have c4:5000<fV:=by omega
   repeat(refine Jy ?_)
   apply End.imp (fun w hm=>(((hm.eX).bY 2 aT).bY 39 cW).bY 3 eC);(refine End.dK (dP.zero) (he:=Jv) (hp:=?_));exact hbad (by omega)
  rw[if_neg h3]at her;have c1:¬task<0:=fun h=>h3 (.inl h)
  have c2:¬((Vm.tasks m.aC).length:Int)≤task:=fun h=>h3 (.inr (.inl h))
  have c3:¬fV<0:=fun h=>h3 (.inr (.inr (.inl h)))
  have c4:¬5000<fV:=fun h=>h3 (.inr (.inr (.inr h)))
  by_cases h5:f.l.length≠m.bx.length
  ·rw[if_pos h5]at her;subst her
   repeat(refine Jy ?_)
   apply End.imp (fun w hm=>(((hm.eX).bY 2 aT).bY 39 cW).bY 3 eC);(refine End.dK (dP.zero) (he:=Jv) (hp:=?_));exact hbad (by omega)
  rw[if_neg h5]at her;have h5:f.l.length=m.bx.length:=tW.1 h5
  repeat(refine Jy ?_)
  apply aB.imp (fun w hm=>Mem.yE (tk) hm);refine aB.only ((fun k=>[aI w S,md m,fd f,rd f.o f.l.length f.c cW f.l,aD mb (fN m) 26,aD rb dP.zero.cells 41,arr ko (Vm.tasks m.aC).length kc 3 eC (Vm.tasks m.aC)]) 0) (aK) ?_;apply aB.loop (σ:=Nat) (fun k=>k≤f.l.length∧∀j,j<k→rU m f j=false) (fun k=>[(1, .int .i64 task),(2,f.val),(3, .int .i64 fV),(4,ptr mb),(8,ptr rb),(9, .int .i64 0),(11, .slice ko (Vm.tasks m.aC).length kc),(52,f.val),(53, .int .i64 (f.l.length:Int)),(54, .int .i64 (k:Int))]) (fun k=>[aI w S,md m,fd f,rd f.o f.l.length f.c cW f.l,aD mb (fN m) 26,aD rb dP.zero.cells 41,arr ko (Vm.tasks m.aC).length kc 3 eC (Vm.tasks m.aC)]) (fun k=>f.l.length-k) 0
  rotate_left
  exact sb;exact aK;intro k hk K1 hK1;(refine Jn ?_)
  rotate_left
  ·exact⟨bP _,fun j hj=>by omega⟩
  obtain⟨hk,hgood⟩:=hk
  by_cases hkn:k<f.l.length
  ·apply aB.imp (fun w hm=>Mem.BG hkn (tk) hm);have hkl:=hfs.2 k hkn;obtain⟨r,hr⟩:∃r,r=f.l.getD k default:=⟨_,rfl⟩;rw[←hr]at hkl⊢;have hbd:rU m f k=r.l.any (Vm.pO (m.bx.getD k default).1):=by unfold rU;rw[←hr]
   repeat(refine Jy ?_)
   simp only[←hr];refine aB.only ((fun j=>[aI w S,md m,fd f,rd f.o f.l.length f.c cW f.l,rd r.o r.l.length r.c aT r.l,aD mb (fN m) 26,aD rb dP.zero.cells 41,arr ko (Vm.tasks m.aC).length kc 3 eC (Vm.tasks m.aC)]) 0) (aK) ?_;apply aB.loop (σ:=Nat) (fun j=>j≤r.l.length∧∀i,i<j→Vm.pO (m.bx.getD k default).1 (r.l.getD i default)=false) (fun j=>[(1, .int .i64 task),(2,f.val),(3, .int .i64 fV),(4,ptr mb),(8,ptr rb),(9, .int .i64 0),(11, .slice ko (Vm.tasks m.aC).length kc),(12, .int .i64 (k:Int)),(52,f.val),(53, .int .i64 (f.l.length:Int)),(54, .int .i64 (k:Int)),(59, .slice r.o r.l.length r.c),(60, .int .i64 (r.l.length:Int)),(61, .int .i64 (j:Int))]) (fun j=>[aI w S,md m,fd f,rd f.o f.l.length f.c cW f.l,rd r.o r.l.length r.c aT r.l,aD mb (fN m) 26,aD rb dP.zero.cells 41,arr ko (Vm.tasks m.aC).length kc 3 eC (Vm.tasks m.aC)]) (fun j=>r.l.length-j) 0
   rotate_left
   exact sb;exact aK;intro j hj K2 hK2;(refine Jn ?_)
   rotate_left
   ·exact⟨bP _,fun i hi=>by omega⟩
   obtain⟨hj,hg2⟩:=hj
   by_cases hjn:j<r.l.length
   ·by_cases hbw:Vm.pO (m.bx.getD k default).1 (r.l.getD j default)=true
    ·have hb9:rU m f k=true:=by rw[hbd];exact YX hjn hbw
     have hany:(List.range f.l.length).any (rU m f)=true:=qD.2 ⟨k,nN.2 hkn,hb9⟩;rw[if_pos hany]at her;subst her;unfold Vm.pO at hbw;rw[JX,JX,JV,JV,JV]at hbw;obtain⟨b1,b2,b3⟩:=hbw
     repeat(refine Jy ?_)
     apply End.imp (fun w hm=>(((hm.eX).bY 2 aT).bY 39 cW).bY 3 eC);(refine End.dK (dP.zero) (he:=Jv) (hp:=?_));exact hbad (by omega)
    ·have hbw:Vm.pO (m.bx.getD k default).1 (r.l.getD j default)=false:=by simpa using hbw
     have hnx:∀i,i<j+1→Vm.pO (m.bx.getD k default).1 (r.l.getD i default)=false:=fun i hi=>by
      by_cases e:i=j
      ·subst e;exact hbw
      ·exact hg2 i (by omega)
     have hbw':=hbw;unfold Vm.pO at hbw'
     by_cases b1:(m.bx.getD k default).1=2
     ·by_cases b2:r.l.getD j default=0
      ·repeat(refine Jy ?_)
       refine End.bK hK2 (j+1) ?_ ?_
       ·exact⟨by omega,hnx⟩
       ·omega
      ·have b3:r.l.getD j default=1:=by
        simp only[b1,decide_true,sM,Bool.and_eq_false_iff,JY,tW]at hbw';rcases hbw' with h|h
        ·exact absurd h b2
        ·exact h
       repeat(refine Jy ?_)
       refine End.bK hK2 (j+1) ?_ ?_
       ·exact⟨by omega,hnx⟩
       ·omega
     ·repeat(refine Jy ?_)
      refine End.bK hK2 (j+1) ?_ ?_
      ·exact⟨by omega,hnx⟩
      ·omega
   ·repeat(refine Jy ?_)
    refine End.bK hK1 (k+1) ?_ ?_
    ·refine⟨by omega,fun i hi=>?_⟩
     by_cases e:i=k
     ·subst e;rw[hbd,tX];intro v hv;obtain⟨q,hq,rfl⟩:=mS hv;have:=hg2 q (by omega);rw[show r.l.getD q default=r.l[q] by simp[Jd,Je hq]]at this;simpa using this
     ·exact hgood i (by omega)
    ·omega
  ·have hany:(List.range f.l.length).any (rU m f)=false:=aEq (fun i hi=>hgood i (by omega));rw[hany]at her;simp only[xS,if_false]at her;subst her;obtain⟨tn,rfl⟩:=JI (show 0≤task by omega);obtain⟨mn,rfl⟩:=JI (show 0≤fV by omega)
   repeat(refine Jy ?_)
   refine A9 (σ:=oL) (fun _=>True) (fun p=>[(1, .int .i64 (tn:Int)),(3, .int .i64 (mn:Int)),(4,ptr mb),(8,ptr rb),(9, .int .i64 0),(11, .slice ko (Vm.tasks m.aC).length kc),(16,ptr p.lb)]) (fun p=>[aI w S,md m,fd f,aD mb (fN m) 26,aD rb dP.zero.cells 41,arr ko (Vm.tasks m.aC).length kc 3 eC (Vm.tasks m.aC),aD p.lb (KS p f) 94,arr (some ⟨p.tb,0,none⟩) f.l.length f.l.length 3 eC (List.replicate f.l.length 0),arr (some ⟨p.sb,0,none⟩) f.l.length f.l.length 39 cW (List.replicate f.l.length ⟨none,0,[]⟩)]) ?_ ?_
   ·intro P hP
    repeat(refine Jy ?_)
    (apply aE.op;exact rfl;refine aA.b8 (h:=by exact Still.aCr (t:=0) rfl rfl) (k:=?_));obtain⟨T,hC⟩:=HX hwf hv;have hfed:=aBF h5 h64 (fun i hi=>hgood i (by omega));have hEV:=Vm.KL hfed;obtain⟨hu1,hu2⟩:=WD (m:=m) (k:=tn) (by omega);have hgd:(Vm.tasks m.aC).getD tn default=(Vm.tasks m.aC).getD tn 0:=rfl;rw[hgd];have hul:W5 m (tn:Int)=(Vm.tasks m.aC).getD tn 0:=rfl;generalize(Vm.tasks m.aC).getD tn 0=u at *;obtain⟨q1,q2,q3,q4,q5,q6⟩:=BL (hF.head u hu1);(refine JQ (SR mb m u hu1 92 (ptr P.lb) q1) ?_;intro s hs;(refine Jn ?_));obtain⟨tb,ob,c⟩:=s;dsimp only at hs⊢
    repeat(refine Jy ?_)
    apply aE.imp' (fun w hm=>Mem.MI 2 f.l.length hm);apply aE.imp' (fun w hm=>Mem.ER (p:=P) (f:=f) (e:=⟨List.replicate f.l.length 0,List.replicate f.l.length ⟨none,0,[]⟩⟩) hm (aK));obtain⟨z0,hz0⟩:∃z0:SL (qR P f),z0=SL.born (qR P f) ob c ⟨List.replicate f.l.length 0,List.replicate f.l.length ⟨none,0,[]⟩⟩:=⟨_,rfl⟩;have hzw:z0.Wf:=by rw[hz0];exact ZH hs ob _ (aC9 f)
    have hz2:z0.two=(Vm.new m.aC u,Vm.Ls.new f.ws.length):=by rw[hz0,ZG (m:=m) hs ob];exact congrArg _ (aC8 f)
    have hzg:Vm.Good m.aC T (Vm.AY m.aC f.ws) z0.two:=by rw[hz2];exact aDQ hC hu1 hu2 (Vm.SQ _ _ hfed)
    refine aE.LQ (aI w S::md m::fd f::aD rb dP.zero.cells 41::TM ⟨tb,mb,m⟩ z0) (by subst hz0;(repeat(first|exact aQ.nil|exact Take.head|apply Take.tail|apply aQ.cons))) ?_;(refine Jc ?_;refine aA.aZ (spec:=EN ⟨tb,mb,m⟩ z0 hC hzw h5 hzg) (r:=fun w=>Reads.md (tk) (Reads.any (tk) m6 .nil)) (k:=?_);intro s hs;(refine Jn ?_))
    repeat(refine Jy ?_)
    have hsolo:Vm.e6 m.aC u f.ws mn=Vm.goN (Vm.lists f.ws) m.aC mn (z0.look m).two:=by
     unfold Vm.e6 Vm.xI;rw[hzw.gQ,hz2]
    refine A8 (σ:=Nat×SL (qR P f)) (fun q=>q.2.Wf∧Vm.e6 m.aC u f.ws mn=(q.1,q.2.two)) (fun q=>[(8,ptr rb),(9, .int .i64 0),(16,ptr P.lb),(17,ptr tb),(18, .int .i64 (q.1:Int))]) (fun q=>aI w S::md m::fd f::aD rb dP.zero.cells 41::TM ⟨tb,mb,m⟩ q.2) ?_ ?_
    ·rintro⟨k,z⟩ ⟨hzw',hsol⟩;apply aB.imp (fun w hm=>Mem.ET hm (tk));(refine Jn ?_);obtain⟨e1,e2,e3⟩:pK f z.e:=hzw'.env;dsimp only at hsol⊢
     repeat(refine Jy ?_)
     obtain⟨R,hR⟩:∃R:dP,R=⟨z.st,z.bx,z.tr,z.oo,z.oc,z.out,some ⟨P.sb,0,none⟩,f.l.length,z.e.bM,some ⟨P.tb,0,none⟩,f.l.length,z.e.bX,k⟩:=⟨_,rfl⟩;refine End.dK R (he:=?_) (hF:=by(subst hR;simp only[dP.mem,e1,e2];exact aK)) (hp:=?_)
     ·subst hR;simp only[dP.cells,e1,e2]
     ·unfold AP;rw[←her0,if_pos rfl,hul,Jj,hsol];subst hR;exact⟨rfl,rfl,rfl,rfl,rfl,rfl,rfl⟩
    intro K3 hK3;refine aB.only ((fun q=>aI w S::md m::fd f::aD rb dP.zero.cells 41::TM ⟨tb,mb,m⟩ q.2) (0,z0.look m)) (aK) ?_;apply aB.loop (σ:=Nat×SL (qR P f)) (fun q=>q.1≤mn∧q.2.Wf∧Vm.Good m.aC T (Vm.AY m.aC f.ws) q.2.two∧q.2.out.length≤2*q.1∧Vm.total ((qR P f).abs q.2.e).bM≤4*q.1∧Vm.e6 m.aC u f.ws mn=((Vm.goN (Vm.lists f.ws) m.aC (mn-q.1) q.2.two).1+q.1,(Vm.goN (Vm.lists f.ws) m.aC (mn-q.1) q.2.two).2)) (fun q=>[(3, .int .i64 (mn:Int)),(8,ptr rb),(9, .int .i64 0),(16,ptr P.lb),(17,ptr tb),(18, .int .i64 (q.1:Int))]) (fun q=>aI w S::md m::fd f::aD rb dP.zero.cells 41::TM ⟨tb,mb,m⟩ q.2) (fun q=>mn-q.1) (0,z0.look m)
    rotate_left
    exact sb;exact aK;intro q hq K1 hK1;(refine Jn ?_)
    rotate_left
    ·refine⟨bP _,hzw.look m,by rw[hzw.gQ];exact Vm.uQ hzg,?_,?_,?_⟩
     ·show z0.out.length≤0;rw[hz0];exact cG 0
     ·show Vm.total (gE.abs z0.e).bM≤0;rw[hz0];show Vm.total ((List.replicate f.l.length (⟨none,0,[]⟩:Rw)).map (·.l))≤0;rw[List.map_replicate];unfold Vm.total;rw[List.map_replicate,List.sum_replicate_nat];simp
     ·rw[hsolo];simp
    obtain⟨k,z⟩:=q;obtain⟨r1,r2,r3,r4,r5,r6⟩:=hq;dsimp only at r1 r2 r3 r4 r5 r6 hK1⊢
    by_cases hkm:k<mn
    ·repeat(refine Jy ?_)
     (refine Jc ?_;refine aA.aZ (spec:=V5 ⟨tb,mb,m⟩ z hC hEV r2 h5 r3 (by omega) (dO (show(qR P f).size ((qR P f).abs z.e)≤4*k from r5) (by omega))) (r:=fun w=>Reads.md (tk) (Reads.any (tk) m6 .nil)) (k:=?_);intro s hs;(refine Jn ?_));obtain⟨z',rfl⟩:∃x,x=s:=⟨_,rfl⟩;obtain⟨s1,s2⟩:=hs;have hmk:mn-k=(mn-(k+1))+1:=by omega
     rw[hmk]at r6;unfold Vm.goN at r6
     by_cases hb:(Vm.step (qR P f).V (⟨tb,mb,m⟩:Pl).m.aC z.two).1=true
     ·rw[hb];rw[if_pos (show(Vm.step (Vm.lists f.ws) m.aC z.two).1=true from hb)]at r6
      repeat(refine Jy ?_)
      refine End.bK hK1 (k+1,z') ?_ ?_
      ·refine⟨by omega,s1,by rw[s2];exact Vm.F3 hC hEV r3,?_,?_,?_⟩
       ·have h1:=Vm.M1 (V:=Vm.lists f.ws) (M:=m.aC) z.two;have h2:z'.out=(Vm.step (Vm.lists f.ws) m.aC z.two).2.1.out:=congrArg (fun r=>r.1.out) s2;rw[h2];have h3:z.two.1.out.length≤2*k:=r4;dsimp only;omega
       ·have h1:=Vm.F4 (sz:=fun s:Vm.Ls=>Vm.total s.bM) (V:=Vm.lists f.ws) (M:=m.aC) (fun v b x=>Vm.GF v.bM b x) (fun v b=>l6 _) (fun v x=>l6 _) z.two;have h2:(qR P f).abs z'.e=(Vm.step (Vm.lists f.ws) m.aC z.two).2.2:=congrArg (fun r=>r.2) s2;have h3:Vm.total z.two.2.bM≤4*k:=r5;show Vm.total ((qR P f).abs z'.e).bM≤4*(k+1);rw[h2];omega
       ·rw[r6,s2];refine oK ?_ rfl;dsimp only;omega
      ·dsimp only;omega
     ·have hb:(Vm.step (qR P f).V (⟨tb,mb,m⟩:Pl).m.aC z.two).1=false:=by simpa using hb
      rw[hb];rw[if_neg (show¬(Vm.step (Vm.lists f.ws) m.aC z.two).1=true by rw[show(Vm.step (Vm.lists f.ws) m.aC z.two).1=false from hb];simp)]at r6
      repeat(refine Jy ?_)
      refine End.some_ hK3 (k,z') ?_;exact⟨s1,by rw[r6,s2];exact oK (by simp) rfl⟩
    ·repeat(refine Jy ?_)
     refine End.some_ hK3 (k,z) ?_;refine⟨r2,?_⟩;rw[r6,show mn-k=0 by omega];exact oK (by simp[Vm.goN]) rfl
   ·intro K2 hK2;apply aB.draw 99 ([]) (by kernel_rfl) 10 rfl;refine JN 0 ?_;refine JN 1 ?_;refine JN 2 ?_;refine JN 4 ?_;refine JN 5 ?_;refine RunT.aGw 3 6 (h:=?_) (h':=?_)
    ·refine aA.rQ (f:=eC) (iα:=inferInstance) (ef:=inferInstance) (z:=0) (n:=f.l.length) (k:=?_);intro tb;refine JG ?_;(refine JT 6 ?_;refine aA.rQ (f:=cW) (iα:=inferInstance) (ef:=inferInstance) (z:=⟨none,0,[]⟩) (n:=f.l.length) (k:=?_));intro sb;refine JG ?_;refine JN 7 ?_;(refine JT 8 ?_;(refine Jb ?_;intro b);refine JG ?_);refine JN 9 ?_;(apply RunT.done;kernel_rfl);refine End.some_ hK2 ⟨b,tb,sb⟩ ?_;trivial
    ·refine aA.rQ (f:=cW) (iα:=inferInstance) (ef:=inferInstance) (z:=⟨none,0,[]⟩) (n:=f.l.length) (k:=?_);intro sb;refine JG ?_;(refine JT 3 ?_;refine aA.rQ (f:=eC) (iα:=inferInstance) (ef:=inferInstance) (z:=0) (n:=f.l.length) (k:=?_));intro tb;refine JG ?_;refine JN 7 ?_;(refine JT 8 ?_;(refine Jb ?_;intro b);refine JG ?_);refine JN 9 ?_;(apply RunT.done;kernel_rfl);refine End.some_ hK2 ⟨b,tb,sb⟩ ?_;trivial
 ·have he:(Ver.verify m.aC).err≠0:=fun h=>hv (Ver.NX h)
  have her2:er=(Ver.verify m.aC).err:=by rw[her];unfold Vm.u9;rw[if_pos he]
  generalize Ver.verify m.aC=V at *
  repeat(refine Jy ?_;try intro b)
  obtain⟨wb,rfl⟩:∃x,x=b:=⟨_,rfl⟩;apply aB.draw 9 ([aD wb [.int .i64 V.err, .int .i64 V.unit, .int .i64 V.at_] 51]) (by kernel_rfl) 5 rfl;refine JN 0 ?_;refine JN 1 ?_;refine JN 2 ?_;(refine JT 3 ?_;(refine Jw ?_);refine JG ?_);refine JN 4 ?_;(apply RunT.done;kernel_rfl)
  repeat(refine Jy ?_)
  apply End.imp (fun w hm=>(((hm.eX).bY 2 aT).bY 39 cW).bY 3 eC);(refine End.dK (dP.zero) (he:=by(rw[her2];rfl)) (hp:=?_));exact hbad (by rw[her2];exact he)
end
instance:Inhabited dP:=⟨dP.zero⟩
theorem aAe{r:jD}{c:Vm.Ma}(h:r.ends.map qL=c.ts.map vG){k:Nat}(hk:k<r.ends.length):k<c.ts.length∧qL (r.ends.getD k default)=vG (c.ts.getD k default):=by
 have hl:=congrArg List.length h;simp only[Jf]at hl;refine⟨by omega,?_⟩;have h1:(r.ends.map qL)[k]?=(c.ts.map vG)[k]?:=by rw[h]
 rw[JU,JU,Je hk,Je (show k<c.ts.length by omega)]at h1;rw[Jd,Jd,Je hk,Je (show k<c.ts.length by omega)];simpa using h1
structure YP(r:jD)(es:List dP):Prop where
 out:∀k,k<r.ends.length→(r.ends.getD k default).out<+:(es.getD k default).out
 room:(∀j,j<r.ends.length→(r.ends.getD j default).st≠2)→∀k,k<r.ends.length→(r.ends.getD k default).out=(es.getD k default).out∧(r.ends.getD k default).st=(es.getD k default).st∧(r.ends.getD k default).tr=(es.getD k default).tr
theorem aBP{m:ML}{c:Vm.Ma}{xs:Nat→List Int}{F:List (List Int)}{r:jD}{es:List dP}{T:Nat→Int→Option Ver.Shape}(hC:Vm.dF m.aC T)(hR:Ver.sP m.aC)(hS:Vm.Stood m.aC false c xs)
  (hrs:Vm.Rest m.aC (Vm.fT m.aC) (Vm.bZ m.aC) xs c.bs.ws) (hfx:Vm.rD m.aC c xs F) (hfix:Vm.mF m.aC F 5000=F) (hr:r.Is (c.looked m.aC))
  (hes:∀j,j<(Vm.tasks m.aC).length→(es.getD j default).Is (Vm.e6 m.aC ((Vm.tasks m.aC).getD j 0) F 5000)∧(es.getD j default).st≠1):
  r.ends.length=(Vm.tasks m.aC).length∧YP r es:=by
 have htl:(Vm.bZ m.aC).length=(Vm.tasks m.aC).length:=by simp[Vm.bZ]
 have hl:=congrArg List.length hr.ends;have hcl:=hS.len;have hlen:r.ends.length=(Vm.tasks m.aC).length:=by
  simp only[Jf,Vm.Ma.looked]at hl;omega
 have key:∀k,k<r.ends.length→_:=fun k hk=>Vm.aBN hC hR hS hrs hfx hfix (fun j hj=>by
  rw[←(hes j (by omega)).1.st];exact(hes j (by omega)).2) (k:=k) (by omega)
 have at_:∀k,k<r.ends.length→(r.ends.getD k default).st=((c.looked m.aC).ts.getD k default).st∧(r.ends.getD k default).tr=((c.looked m.aC).ts.getD k default).tr∧(r.ends.getD k default).out=((c.looked m.aC).ts.getD k default).out:=fun k hk=>by
  obtain⟨-,x⟩:=aAe hr.ends hk;simp only[qL,vG,wD]at x;exact⟨x.1,x.2.2.1,x.2.2.2⟩
 refine⟨hlen,fun k hk=>?_,fun hm k hk=>?_⟩
 ·rw[(at_ k hk).2.2,(hes k (by omega)).1.out];exact(key k hk).1
 ·obtain⟨h1,h2,h3⟩:=(key k hk).2 (fun j hj=>by
   rw[←(at_ j (by omega)).1];exact hm j (by omega))
  have e:=(hes k (by omega)).1;rw[(at_ k hk).2.2,(at_ k hk).1,(at_ k hk).2.1,e.out,e.st,e.tr];exact⟨h1,h2,h3⟩
section
attribute [local irreducible] aE aB End aA Still aM aP RunT Fn aO
theorem ZA(a b:Rw)(h:a.l<+:b.l):Fn Tryz.prog 12 #[.slice a.o a.l.length a.c, .slice b.o b.l.length b.c] [zJ a,zJ b] [] (σ:=Unit) (fun _=>True) (fun _=> .bool true) (fun _=>[]):=by
 obtain⟨a0,ac,l⟩:=a;obtain⟨b0,bc,l'⟩:=b;dsimp only at h⊢;have hle:=h.length_le;have ht:l'.take l.length=l:=(List.prefix_iff_eq_take.1 h).symm;refine JE [.slice a0 l.length ac, .slice b0 l'.length bc] Tryz.func12 Tryz.ntmps12 fun w S=>?_
 (refine Jn ?_)
 repeat(refine Jy ?_;try intro ao cap)
 rw[ht];refine JQ (VE ⟨a0,ac,l⟩ ⟨ao,cap,l⟩ rfl) ?_;intro s hs;(refine Jn ?_)
 repeat(refine Jy ?_)
 (refine End.aH (()) (he:=Jv) (hp:=?_));trivial
end
end Vw
end Go.Proofs.YtofckcabpchcmaaGreatDoor
