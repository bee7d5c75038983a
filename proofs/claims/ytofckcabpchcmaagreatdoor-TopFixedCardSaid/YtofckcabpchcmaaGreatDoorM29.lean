/- The numbers of a module that a text gives are small. Plain Lean. -/
import Derived.Test.YtofckcabpchcmaaGreatDoorM28
set_option linter.unusedVariables false
set_option linter.unusedSimpArgs false
set_option linter.unusedSectionVars false
set_option maxRecDepth 100000
namespace Go.Proofs.YtofckcabpchcmaaGreatDoor
namespace Fr
open ImgM
section
abbrev cB(v:Int):Prop:=0≤v∧v≤1000000000000000
abbrev OI(i:aY):Prop:=cB i.op∧cB i.a∧cB i.n
structure Jw(s c:Nat)(w:Wr):Prop where
 cc:c≤2000
 ll:w.locals.length+s≤20+2*c
 cl:w.code.length+s≤20+2*c
 lo:∀t∈w.locals,cB t
 co:∀i∈w.code,OI i
 bl:∀b∈w.blocks,∀x∈b,x.2≤w.locals.length
variable{s s' c:Nat}{w:Wr}
theorem Jw.put(h:Jw (s+1) c w){op a n:Int}(h1:cB op)(h2:cB a)(h3:cB n):Jw s c (w.put op a n):=
 ⟨h.cc,by have:=h.ll;show w.locals.length+s≤_;omega,by have:=h.cl;simp only[Wr.put,Jl,jA];omega,h.lo,fun i hi=>by
  simp only[Wr.put,dH,gD]at hi;rcases hi with hi|rfl
  ·exact h.co i hi
  ·exact⟨h1,h2,h3⟩,h.bl⟩
theorem Jw.less(h:Jw s c w)(hs:s'≤s):Jw s' c w:=⟨h.cc,by have:=h.ll;omega,by have:=h.cl;omega,h.lo,h.co,h.bl⟩
theorem Jw.node(h:Jw s c w){c1:Nat}{d:Nat}(h1:nd d c=some c1):Jw (s+2) c1 w:=by
 obtain⟨e,h2⟩:=y7 h1;have:=h.ll;have:=h.cl;have:c1≤2000:=by
  unfold nd at h1
  split at h1
  ·cases h1
  ·cases h1;omega
 exact⟨this,by omega,by omega,h.lo,h.co,h.bl⟩
theorem Jw.loc(h:Jw (s+1) c w)(nm:aF){t:Int}(ht:cB t):Jw s c (w.lU nm t):=by
 refine⟨h.cc,by have:=h.ll;simp only[Wr.lU,Jl,jA];omega,by have:=h.cl;show w.code.length+s≤_;omega,fun i hi=>?_,h.co,fun b hb x hx=>?_⟩
 ·simp only[Wr.lU,dH,gD]at hi;rcases hi with hi|rfl
  ·exact h.lo i hi
  ·exact ht
 ·have hB:=h.bl;simp only[Wr.lU,Jl,jA]at hb⊢
  cases hw:w.blocks with
  |nil=>rw[hw]at hb;simp at hb
  |cons q r=>
   rw[hw]at hb hB;rcases eB.1 hb with rfl|hb
   ·rcases dH.1 hx with hx|hx
    ·have:=hB q gU x hx;omega
    ·rw[gD.1 hx];exact l6 _
   ·have:=hB b (iO _ hb) x hx;omega
theorem Jw.FE(h:Jw s c w):Jw s c w.open_:=⟨h.cc,h.ll,h.cl,h.lo,h.co,fun b hb x hx=>by
 rcases eB.1 hb with rfl|hb
 ·cases hx
 ·exact h.bl b hb x hx⟩
theorem Jw.cls(h:Jw s c w):Jw s c w.close:=⟨h.cc,h.ll,h.cl,h.lo,h.co,fun b hb x hx=>h.bl b (List.mem_of_mem_tail hb) x hx⟩
theorem Jw.len(h:Jw s c w):cB (w.code.length:Int):=by have:=h.cl;have:=h.cc;constructor<;>omega
theorem Jw.aCL(h:Jw s c w):cB (w.locals.length:Int):=by have:=h.ll;have:=h.cc;constructor<;>omega
theorem Jw.patch(h:Jw s c w)(k:Nat){a:Nat}(ha:cB (a:Int)):Jw s c (w.patch k a):=by
 refine⟨h.cc,h.ll,by simp only[Wr.patch,Ji];exact h.cl,h.lo,fun i hi=>?_,h.bl⟩;simp only[Wr.patch]at hi;rcases tU hi with hi|rfl
 ·exact h.co i hi
 ·have hd:OI (w.code.getD k default):=by
   rw[Jd]
   cases hx:w.code[k]? with
   |none=>exact⟨by decide,by decide,by decide⟩
   |some y=>exact h.co y (jB hx)
  exact⟨hd.1,ha,hd.2.2⟩
theorem R0{n:Nat}:∀(B:List (List (aF×Nat))) (nm:aF),(∀b∈B,∀x∈b,x.2≤n)→(eL B nm).getD 0≤n
 |[],nm,h=>by rw[eL];exact bP _
 |b::r,nm,h=>by
  rw[eL]
  cases hb:at_ b nm with
  |none=>exact R0 r nm fun b hb=>h b (iO _ hb)
  |some t=>
   unfold at_ at hb;obtain⟨x,hx,rfl⟩:=dG.1 hb;exact h b gU x (AR hx)
theorem Jw.look(h:Jw s c w)(nm:aF):cB (w.look nm:Int):=by
 have:=R0 w.blocks nm h.bl;have h2:w.look nm≤w.locals.length:=this;have:=h.ll;have:=h.cc;constructor<;>omega
theorem Jw.ty(h:Jw s c w)(k:Nat):cB (w.locals.getD k 0):=by
 rw[Jd]
 cases hx:w.locals[k]? with
 |none=>exact⟨by decide,by decide⟩
 |some y=>exact h.lo y (jB hx)
structure HP(P:List Df):Prop where
 len:P.length≤30
 ty:∀d∈P,0≤d.type.kind∧d.type.kind≤3
theorem RH{l:List Df}{p:Df→Bool}:(l.findIdx? p).getD 0≤l.length:=by
 cases h:l.findIdx? p with
 |none=>exact bP _
 |some k=>
  obtain⟨h1, -⟩:=DA.1 h;exact Nat.le_of_lt h1
section
variable{P:List Df}(hP:HP P)
include hP
theorem HP.unit(nm:aF):gC P nm≤30:=by
 have h1:= @RH (P.filter fun d=>!decide (d.kind=1)) (fun d=>decide (d.name=nm));have h2:=pG (fun d:Df=>!decide (d.kind=1)) P;have:=hP.len;unfold gC;omega
theorem HP.box(nm:aF):pQ P nm≤30:=by
 have h1:= @RH (P.filter fun d=>decide (d.kind=1)) (fun d=>decide (d.name=nm));have h2:=pG (fun d:Df=>decide (d.kind=1)) P;have:=hP.len;unfold pQ;omega
theorem HP.no{t:Ty}(h:0≤t.kind∧t.kind≤3):cB (dE P t):=by
 have:=hP.unit t.gen;unfold dE
 split<;>constructor<;>omega
theorem HP.of(nm:aF):cB (p9 P nm):=by
 unfold p9
 split
 ·rename_i d hd
  exact hP.no (hP.ty d (AR hd))
 ·exact⟨by decide,by decide⟩
theorem HP.at(k:Nat):cB (match (P.filter fun d=>!decide (d.kind=1))[k]? with
   |some d=>dE P d.type
   |none=>0):=by
 split
 ·rename_i d hd
  exact hP.no (hP.ty d (lP.1 (jB hd)).1)
 ·exact⟨by decide,by decide⟩
variable{tk:Int}(hT:cB tk)
include hT
mutual
theorem YE:∀(x:Ex) (s c:Nat) (w:Wr) (d c':Nat),iD d x c=some c'→Jw s c w→Jw s c' (cJ P tk x w).1∧cB (cJ P tk x w).2
 | .mk k n nm l,s,c,w,d,c',h,hJ=>by
  rw[iD]at h;obtain⟨c1,h1,h⟩:=bO.1 h
  split at h
  rotate_left
  ·cases h
  rename_i hh
  have hk:=YG l _ _ _ _ _ h (hJ.node h1);rw[cJ];generalize dN P tk l w=r at hk⊢;obtain⟨w1,ts⟩:=r;dsimp only at hk⊢;have hk1:Jw (s+1) c' w1:=hk.less (by omega);have z:cB 0:=⟨by decide,by decide⟩;have key:∀y:Wr×Int,(∃op a n t,cB op∧cB a∧cB n∧cB t∧y=(w1.put op a n,t))→Jw s c' y.1∧cB y.2:=fun y hy=>by
   obtain⟨op,a,n,t,e1,e2,e3,e4,rfl⟩:=hy;exact⟨hk1.put e1 e2 e3,e4⟩
  have hu:=hP.unit nm;have hb:=hP.box nm;have hu':cB (gC P nm:Int):=by constructor<;>omega
  have hb':cB (pQ P nm:Int):=by constructor<;>omega
  refine key _ ?_
  by_cases k1:k=1
  ·rw[if_pos k1];have hn:0≤n∧n≤999999999999999:=by
    subst k1;unfold m8 at hh;simp at hh;omega
   exact⟨_,_,_,_,⟨by decide,by decide⟩,z,⟨by omega,by omega⟩,⟨by decide,by decide⟩,rfl⟩
  rw[if_neg k1]
  by_cases k2:k=2
  ·rw[if_pos k2];have hn:n=0∨n=1:=by
    subst k2;unfold m8 at hh;simp at hh;omega
   exact⟨_,_,_,_,⟨by decide,by decide⟩,⟨by omega,by omega⟩,z,⟨by decide,by decide⟩,rfl⟩
  rw[if_neg k2];refine kS (p:=fun y=>∃op a n t,cB op∧cB a∧cB n∧cB t∧y=(w1.put op a n,t)) (fun _=>⟨_,_,_,_,⟨by decide,by decide⟩,hk.look _,z,hk.ty _,rfl⟩) (fun _=>?_);refine kS (p:=fun y=>∃op a n t,cB op∧cB a∧cB n∧cB t∧y=(w1.put op a n,t)) (fun _=>⟨_,_,_,_,⟨by decide,by decide⟩,z,z,⟨by decide,by decide⟩,rfl⟩) (fun _=>?_);refine kS (p:=fun y=>∃op a n t,cB op∧cB a∧cB n∧cB t∧y=(w1.put op a n,t)) (fun _=>⟨_,_,_,_,⟨by decide,by decide⟩,z,z,⟨by decide,by decide⟩,rfl⟩) (fun _=>?_);refine kS (p:=fun y=>∃op a n t,cB op∧cB a∧cB n∧cB t∧y=(w1.put op a n,t)) (fun _=>⟨_,_,_,_,⟨by omega,by omega⟩,z,z,by split<;>exact⟨by decide,by decide⟩,rfl⟩) (fun _=>?_);refine kS (p:=fun y=>∃op a n t,cB op∧cB a∧cB n∧cB t∧y=(w1.put op a n,t)) (fun _=>⟨_,_,_,_,⟨by decide,by decide⟩,hu',z,hP.of _,rfl⟩) (fun _=>?_);refine kS (p:=fun y=>∃op a n t,cB op∧cB a∧cB n∧cB t∧y=(w1.put op a n,t)) (fun _=>⟨_,_,_,_,⟨by decide,by decide⟩,hb',z,hP.of _,rfl⟩) (fun _=>?_);refine kS (p:=fun y=>∃op a n t,cB op∧cB a∧cB n∧cB t∧y=(w1.put op a n,t)) (fun _=>⟨_,_,_,_,⟨by decide,by decide⟩,hu',z,⟨by omega,by omega⟩,rfl⟩) (fun _=>?_);refine kS (p:=fun y=>∃op a n t,cB op∧cB a∧cB n∧cB t∧y=(w1.put op a n,t)) (fun _=>⟨_,_,_,_,⟨by decide,by decide⟩,z,z,hT,rfl⟩) (fun _=>?_);refine kS (p:=fun y=>∃op a n t,cB op∧cB a∧cB n∧cB t∧y=(w1.put op a n,t)) (fun _=>⟨_,_,_,_,⟨by decide,by decide⟩,z,z,⟨by decide,by decide⟩,rfl⟩) (fun _=>?_);exact⟨_,_,_,_,⟨by decide,by decide⟩,z,z,hP.at _,rfl⟩
theorem YG:∀(l:List Ex) (s c:Nat) (w:Wr) (d c':Nat),iW d l c=some c'→Jw s c w→Jw s c' (dN P tk l w).1
 |[],s,c,w,d,c',h,hJ=>by rw[iW]at h;cases h;rw[dN];exact hJ
 |x::l,s,c,w,d,c',h,hJ=>by
  rw[iW]at h;obtain⟨c1,h1,h⟩:=bO.1 h;have a:=YE x _ _ _ _ _ h1 hJ;rw[dN];exact YG l _ _ _ _ _ h a.1
end
mutual
theorem aHd:∀(x:St) (s c:Nat) (w:Wr) (d c':Nat),jO d x c=some c'→Jw s c w→Jw s c' (pA P tk x w)
 | .mk k nm x b e,s,c,w,d,c',h,hJ=>by
  have z:cB 0:=⟨by decide,by decide⟩;rw[jO]at h;obtain⟨c1,h1,h⟩:=bO.1 h
  split at h
  rotate_left
  ·cases h
  have hJ1:=hJ.node h1;rw[pA]
  by_cases h6:k=6
  ·rw[if_pos h6]at h
   cases h
   rw[if_neg (show¬k=3 by omega),if_neg (show¬k=4 by omega),if_pos h6];exact(hJ1.less (by omega)).put ⟨by decide,by decide⟩ z z
  rw[if_neg h6]at h;obtain⟨c2,h2,h⟩:=bO.1 h;obtain⟨c3,h3,h⟩:=bO.1 h;obtain⟨hx,ht⟩:=YE hP hT x _ _ _ _ _ h2 hJ1
  by_cases k3:k=3
  ·rw[if_pos (.inl k3)]at h3;rw[if_pos k3]at h⊢
   split at h3
   ·cases h3
   split at h
   ·cases h
   have e1:=hx.put (op:=22) (a:=0) (n:=0) ⟨by decide,by decide⟩ z z;have e2:=(C3 b _ _ _ _ _ h3 e1.FE).cls;have e3:=e2.put (op:=21) (a:=0) (n:=0) ⟨by decide,by decide⟩ z z;have e4:=e3.patch (((cJ P tk x w).1.put 22 0 0).code.length-1) e3.len;have e5:=(C3 e _ _ _ _ _ h e4.FE).cls;exact e5.patch _ e5.len
  by_cases k4:k=4
  ·rw[if_pos (.inr k4)]at h3;rw[if_neg k3]at h⊢;rw[if_pos k4]
   cases h
   split at h3
   ·cases h3
   have e1:=hx.put (op:=22) (a:=0) (n:=0) ⟨by decide,by decide⟩ z z;have e2:=(C3 b _ _ _ _ _ h3 e1.FE).cls;have e3:=e2.put (op:=21) (a:=(w.code.length:Int)) (n:=0) ⟨by decide,by decide⟩ hJ.len z;exact e3.patch _ e3.len
  rw[if_neg (show¬(k=3∨k=4) by omega)]at h3
  cases h3
  rw[if_neg k3]at h⊢
  cases h
  rw[if_neg k4,if_neg h6];generalize cJ P tk x w=r at hx ht⊢;obtain⟨w1,t⟩:=r;dsimp only at hx ht⊢;have hx1:Jw (s+1) _ w1:=hx.less (by omega);have hb:=hP.box nm;refine kS (p:=Jw s _) (fun _=>(hx.loc nm ht).put ⟨by decide,by decide⟩ hx.aCL z) (fun _=>?_);refine kS (p:=Jw s _) (fun _=>hx1.put ⟨by decide,by decide⟩ (hx.look _) z) (fun _=>?_);refine kS (p:=Jw s _) (fun _=>hx1.put ⟨by decide,by decide⟩ z z) (fun _=>?_);refine kS (p:=Jw s _) (fun _=>hx1.put ⟨by decide,by decide⟩ ⟨by omega,by omega⟩ z) (fun _=>?_);refine kS (p:=Jw s _) (fun _=>hx1.put ⟨by decide,by decide⟩ z z) (fun _=>?_);refine kS (p:=Jw s _) (fun _=>hx1.put ⟨by decide,by decide⟩ z z) (fun _=>?_);exact hx.less (by omega)
theorem C3:∀(l:List St) (s c:Nat) (w:Wr) (d c':Nat),dZ d l c=some c'→Jw s c w→Jw s c' (eA P tk l w)
 |[],s,c,w,d,c',h,hJ=>by rw[dZ]at h;cases h;rw[eA];exact hJ
 |x::l,s,c,w,d,c',h,hJ=>by
  rw[dZ]at h;obtain⟨c1,h1,h⟩:=bO.1 h;rw[eA];exact C3 l _ _ _ _ _ h (aHd x _ _ _ _ _ h1 hJ)
end
end
end
theorem LO{t:Ty}(h:jP t=true):0≤t.kind∧t.kind≤3:=by
 unfold jP at h;simp only[JX,JV]at h;omega
structure GX(d:Df):Prop where
 kind:1≤d.kind∧d.kind≤4
 ps:d.kind=2∨d.kind=3→d.params.length≤6∧∀p∈d.params,0≤p.type.kind∧p.type.kind≤3
 aS:d.kind=3→0≤d.aS.kind∧d.aS.kind≤3
 type:d.kind≠4→0≤d.type.kind∧d.type.kind≤3
 cap:d.kind=1→cB d.cap
 body:d.kind≠1→∃c c',c≤2000∧dZ 2 d.body c=some c'
theorem aDb{d:Df}{c c':Nat}(h:nX d c=some c'):GX d:=by
 unfold nX at h;obtain⟨c1,h1,h⟩:=bO.1 h;have hc1:c1≤2000:=by
  unfold nd at h1
  split at h1
  ·cases h1
  ·cases h1;omega
 split at h
 rotate_left
 ·cases h
 rename_i hc
 simp only[JX,JV]at hc;obtain⟨⟨⟨⟨⟨a1,a2⟩,a3⟩,a4⟩,a5⟩,a6⟩:=hc;refine⟨⟨a1,a2⟩,fun hk=>?_,fun hk=>?_,fun hk=>?_,fun hk=>?_,fun hk=>?_⟩
 ·have e:(decide (d.kind=2)||decide (d.kind=3))=true:=by rcases hk with hk|hk<;>simp[hk]
  rw[e]at a4;simp only[sM,Bool.not_not,JX,JV,sL]at a4;exact⟨a4.1,fun p hp=>LO (a4.2 p hp).2⟩
 ·rw[decide_eq_true hk]at a5;simp only[sM,Bool.not_not]at a5;exact LO a5
 ·rw[decide_eq_false hk]at a6;simp only[Bool.not_false,sM,Bool.not_not]at a6;exact LO a6
 ·rw[if_pos hk]at h
  split at h
  ·cases h
  ·constructor<;>omega
 ·rw[if_neg hk]at h
  split at h
  ·cases h
  ·exact⟨_,_,hc1,h⟩
theorem S7:∀(l:List Df) (c c':Nat),kW l c=some c'→∀d∈l,GX d
 |[],c,c',h,d,hd=>by cases hd
 |x::l,c,c',h,d,hd=>by
  rw[kW]at h;obtain⟨c1,h1,h⟩:=bO.1 h;rcases eB.1 hd with rfl|hd
  ·exact aDb h1
  ·exact S7 l _ _ h d hd
theorem aAY{l r:List Tok}{d:Df}(h:uL l=some (d,r))(hk:d.kind=4):d.type=default:=by
 unfold uL at h
 repeat' split at h
 ·simp only[bO]at h;obtain⟨⟨s,r1⟩, -,⟨t,r2⟩, -,⟨n,r3⟩, -,h⟩:=h;dsimp only at h
  split at h
  ·cases h
  ·obtain⟨r4, -,h⟩:=dG.1 h
   cases h
   exact absurd hk (show¬(1:Int)=4 by decide)
 ·simp only[bO,dG]at h;obtain⟨⟨s,r1⟩, -,⟨t,r2⟩, -,⟨n,r3⟩, -,⟨b,r4⟩, -,h⟩:=h
  cases h
  exact absurd hk (show¬(2:Int)=4 by decide)
 ·simp only[bO,dG]at h;obtain⟨⟨s,r1⟩, -,⟨t,r2⟩, -,r3, -,⟨n,r4⟩, -,r5, -,⟨b,r6⟩, -,⟨q,r7⟩, -,h⟩:=h
  cases h
  exact absurd hk (show¬(3:Int)=4 by decide)
 ·simp only[bO,dG]at h;obtain⟨⟨s,r1⟩, -,⟨t,r2⟩, -,h⟩:=h
  cases h
  rfl
 ·cases h
theorem PZ:∀(n:Nat) (l r:List Tok) (ds:List Df),defs n l=some (ds,r)→∀d∈ds,d.kind=4→d.type=default
 |n,[],r,ds,h,d,hd,hk=>by
  have:defs n []=some ([],[]):=by cases n<;>rfl
  rw[this]at h;cases h;cases hd
 |0,_::_,r,ds,h,d,hd,hk=>by cases h
 |n+1,t::l,r,ds,h,d,hd,hk=>by
  have e:defs (n+1) (t::l)=(uL (t::l)).bind fun x=>(defs n x.2).map fun y=>(x.1::y.1,y.2):=rfl
  rw[e]at h;simp only[bO,dG]at h;obtain⟨⟨x,r1⟩,h1,⟨y,r2⟩,h2,h⟩:=h
  cases h
  rcases eB.1 hd with rfl|hd
  ·exact aAY h1 hk
  ·exact PZ n _ _ _ h2 d hd hk
theorem aDx{s:aF}{P:List Df}(h:parse s=some P):∀d∈P,d.kind=4→d.type=default:=by
 unfold parse at h;simp only[bO,dG]at h;obtain⟨l, -,⟨ds,r⟩,h1,rfl⟩:=h;exact PZ _ _ _ _ h1
theorem UB{P:List Df}(hP:HP P):∀(ps:List Pm) (s c:Nat) (w:Wr),(∀p∈ps,0≤p.type.kind∧p.type.kind≤3)→Jw (s+ps.length) c w→Jw s c (ps.foldl (fun w p=>w.lU p.name (dE P p.type)) w)
 |[],s,c,w,h,hJ=>hJ
 |p::ps,s,c,w,h,hJ=>UB hP ps s c _ (fun q hq=>h q (iO _ hq)) (Jw.loc (s:=s+ps.length) hJ p.name (hP.no (h p gU)))
theorem tL{v:Int}(h:cB v):bG v:=by unfold bG;have:=h.1;have:=h.2;omega
structure OK(u:bS):Prop where
 kind:bG u.kind
 params:bG u.params
 locals:∀t∈u.locals,bG t
 result:bG u.result
 aS:bG u.aS
 code:∀i∈u.code,bG i.op∧bG i.a∧bG i.n
abbrev wB(P:List Df)(d:Df):Wr:=(eA P (if d.kind=3 then dE P d.aS else 0) d.body ((if d.kind=4 then []else d.params).foldl (fun(w:Wr) p=>w.lU p.name (dE P p.type)) (⟨[],[],[[]]⟩:Wr)).open_).close
theorem aHG{P:List Df}(hP:HP P){d:Df}(hd:GX d)(h1:d.kind≠1):OK (q0 P d):=by
 have z:cB 0:=⟨by decide,by decide⟩;obtain⟨c,c',hc,hb⟩:=hd.body h1;have hk:=hd.kind;have htk:cB (if d.kind=3 then dE P d.aS else 0):=by
  split
  ·rename_i h;exact hP.no (hd.aS h)
  ·exact z
 have hres:cB (if d.kind=4 then 0 else dE P d.type):=by
  split
  ·exact z
  ·rename_i h;exact hP.no (hd.type h)
 have h0:Jw 12 c ⟨[],[],[[]]⟩:=⟨hc,by show 0+12≤_;omega,by show 0+12≤_;omega,fun t ht=>(by cases ht),fun t ht=>(by cases ht),fun b hb x hx=>by
  rw[gD.1 hb]at hx;cases hx⟩
 have hps:(if d.kind=4 then []else d.params).length≤6∧∀p∈(if d.kind=4 then []else d.params),0≤p.type.kind∧p.type.kind≤3:=by
  split
  ·exact⟨bP _,fun p hp=>by cases hp⟩
  ·exact hd.ps (by omega)
 have hJ:Jw 6 c' (wB P d):=(C3 hP htk d.body _ _ _ _ _ hb (UB hP _ 6 c _ hps.2 (h0.less (by omega))).FE).cls;have hw:Jw 2 c' (if d.kind=2 then(((wB P d).put (if(if d.kind=4 then 0 else dE P d.type)=2 then 2 else 1) 0 0).put 24 0 0)else(wB P d).put 25 0 0):=by
  refine kS (p:=Jw 2 c') (fun _=>?_) (fun _=>?_)
  ·exact((hJ.less (s':=4) (by omega)).put (kS (p:=cB) (fun _=>⟨by decide,by decide⟩) (fun _=>⟨by decide,by decide⟩)) z z).put ⟨by decide,by decide⟩ z z
  ·exact(hJ.less (s':=3) (by omega)).put ⟨by decide,by decide⟩ z z
 refine⟨by unfold bG;show _≤d.kind∧d.kind≤_;omega,?_,fun t ht=>tL (hw.lo t ht),tL hres,tL htk,fun i hi=>?_⟩
 ·show bG (if d.kind=4 then 0 else(d.params.length:Int))
  split
  ·exact tL z
  ·have:=(hd.ps (by omega)).1;unfold bG;omega
 ·have:=hw.co i hi;exact⟨tL this.1,tL this.2.1,tL this.2.2⟩
theorem aCy{t:aF}{M:aG}(h:module t=some M):(∀b∈M.boxes,bG b.1∧bG b.2)∧∀u∈M.aL,OK u:=by
 unfold module at h;obtain⟨P,hp,h⟩:=bO.1 h;unfold compile at h
 split at h
 rotate_left
 ·cases h
 rename_i hc
 have hsh:shaped P=true:=by
  unfold check at hc;simp only[JX]at hc;exact hc.1.1.1.1.1
 unfold shaped at hsh;simp only[JX,JV]at hsh;obtain⟨c',hc'⟩:=lN.1 hsh.2;have hd:=S7 P _ _ hc';have hP:HP P:=⟨hsh.1,fun d hd'=>by
  by_cases h4:d.kind=4
  ·rw[aDx hp d hd' h4];exact⟨by decide,by decide⟩
  ·exact(hd d hd').type h4⟩
 dsimp only at h
 split at h
 ·cases h
 cases h
 refine⟨fun b hb=>?_,fun u hu=>?_⟩
 ·obtain⟨d,hm,rfl⟩:=fD.1 hb;have hm:=lP.1 hm;have k1:d.kind=1:=of_decide_eq_true hm.2;exact⟨tL (hP.no ((hd d hm.1).type (by omega))),tL ((hd d hm.1).cap k1)⟩
 ·obtain⟨d,hm,rfl⟩:=fD.1 hu;have hm:=lP.1 hm;have k1:d.kind≠1:=fun e=>by have:=hm.2;simp[e]at this
  exact aHG hP (hd d hm.1) k1
end Fr
namespace Vw
open Go.RowKit Img
section
attribute [local irreducible] aE aB End aA Still aM aP RunT Fn aO
theorem NI(t:Bool):Fn Tryz.prog 105 #[.bool t] [] [] (σ:=Unit) (fun _=>True) (fun _=> .int .i64 (Opt.yes t)) (fun _=>[]):=by
 refine JE [.bool t] Tryz.func105 Tryz.ntmps105 fun w S=>?_
 (refine Jn ?_)
 cases t with
 |true=>
  repeat(refine Jy ?_)
  (refine End.aH (()) (he:=Jv) (hp:=?_));trivial
 |false=>
  repeat(refine Jy ?_)
  (refine End.aH (()) (he:=Jv) (hp:=?_));trivial
theorem aCo{op:Int}(h:op=11)(a:Int)(ha:a= -9223372036854775808):IntKind.i64.wrap (Opt.yes (decide (op=11))*a)=a:=by
 subst ha h;decide
theorem aCp{op:Int}(h:op=12)(a:Int)(ha:a= -9223372036854775808):IntKind.i64.wrap (Opt.yes (decide (op=11))*a)=0:=by
 subst ha h;decide
set_option maxHeartbeats 1000000 in
theorem GG(op a b:Int)(ha:ImgM.bG a)(hb:ImgM.bG b)(h0:op=11∨op=12→b≠0):Fn Tryz.prog 65 #[.int .i64 op, .int .i64 a, .int .i64 b] [] [] (σ:=Unit) (fun _=>True) (fun _=> .int .i64 (Opt.lY op a b)) (fun _=>[]):=by
 unfold ImgM.bG at ha hb;refine JE [.int .i64 op, .int .i64 a, .int .i64 b] Tryz.func65 Tryz.ntmps65 fun w S=>?_
 (refine Jn ?_)
 repeat' (first|(refine Jc ?_;refine aA.aZ (spec:=NI _) (k:=?_);intro s hs;(refine Jn ?_))|(apply aE.op;exact rfl;refine aA.b8 (h:=by(apply Still.quo;exact rfl;exact rfl;(exact h0 (by omega));exact rfl)) (k:=?_))|(apply aE.op;exact rfl;refine aA.b8 (h:=by(apply Still.rem;exact rfl;exact rfl;(exact h0 (by omega));exact rfl)) (k:=?_))|refine Jo ?_|(refine JB ?_;intro b)|(refine JA ?_;intro ao cap)|refine gG (k:=fun h=>?_) (k':=fun h=>?_)|fail)
 all_goals ((refine End.aH (()) (he:=by(refine int_eq ?_;unfold Opt.lY;(repeat(first|rw[if_neg (by omega)]|rw[if_pos (by omega)]));first|done|(refine aCo (op:=op) ?_ _ ?_<;>first|assumption|omega)|(refine aCp (op:=op) ?_ _ ?_<;>first|assumption|omega))) (hp:=?_));trivial)
theorem YL(b:Bool):ImgM.bG (Opt.yes b):=by cases b<;>(unfold ImgM.bG Opt.yes;omega)
section
variable(E:cN)
def lB(i:ImgM.aY)(v:E.ν):Int:=if i.op=26∧E.V.full v i.a.toNat=true then 2 else if i.op=27∧E.V.empty v i.a.toNat=true then 3 else 1
def oD(i:ImgM.aY)(v:E.ν):Int:=if i.op=26∧E.V.full v i.a.toNat=true then i.a else if i.op=27∧E.V.empty v i.a.toNat=true then i.a else 0
theorem aH2(F:TF)(st tr:Int)(e:E.μ)(he:E.ok e)(i:ImgM.aY)(hb:i.op=26∨i.op=27→0≤i.a∧i.a.toNat<E.boxes):Fn Tryz.prog 60 #[ptr F.tb,kR i] [E.rc] [E.tc F st tr,E.mem e] (σ:=Unit) (fun _=>True) (fun _=> .bool (!decide (lB E i (E.abs e)=1))) (fun _=>[E.tc ⟨F.tb,F.mb,F.cos,F.cb,oD E i (E.abs e),F.out⟩ (lB E i (E.abs e)) tr,E.mem e]):=by
 refine JE [ptr F.tb,kR i] Tryz.func60 Tryz.ntmps60 fun w S=>?_
 (refine Jn ?_)
 by_cases h26:i.op=26
 ·obtain⟨ha,hlt⟩:=hb (.inl h26);have hf:=E.full e i.a.toNat he hlt;rw[qF ha]at hf
  repeat(refine Jy ?_;try intro b)
  (refine Jc ?_;refine aA.DN (E.KV) (E.HI) (hf) (r:=fun w=>Reads.any (tk) E.dJ .nil) (k:=?_);intro s hs;(refine Jn ?_))
  cases hv:E.V.full (E.abs e) i.a.toNat with
  |true=>
   have e1:lB E i (E.abs e)=2:=by unfold lB;rw[if_pos ⟨h26,hv⟩]
   have e2:oD E i (E.abs e)=i.a:=by unfold oD;rw[if_pos ⟨h26,hv⟩]
   rw[e1,e2]
   repeat(refine Jy ?_)
   apply aB.draw 9 ([aD b (dV i) 113]) (by kernel_rfl) 10 rfl;refine JR 0 ?_;refine JR 1 ?_;refine JR 2 ?_;refine JR 3 ?_;refine JR 4 ?_;refine JR 5 ?_;(refine JT 6 ?_;(refine Jw ?_);refine JG ?_);refine JR 7 ?_;refine JR 8 ?_;(refine JT 9 ?_;(refine Jw ?_);refine JG ?_);(apply RunT.done;kernel_rfl)
   repeat(refine Jy ?_)
   (refine End.aH (()) (he:=Jv) (hp:=?_));trivial
  |false=>
   have e1:lB E i (E.abs e)=1:=by unfold lB;rw[if_neg (by rw[hv];simp),if_neg (by omega)]
   have e2:oD E i (E.abs e)=0:=by unfold oD;rw[if_neg (by rw[hv];simp),if_neg (by omega)]
   rw[e1,e2]
   repeat(refine Jy ?_)
   (refine End.aH (()) (he:=Jv) (hp:=?_));trivial
 ·by_cases h27:i.op=27
  ·obtain⟨ha,hlt⟩:=hb (.inr h27);have hf:=E.empty e i.a.toNat he hlt;rw[qF ha]at hf
   repeat(refine Jy ?_;try intro b)
   (refine Jc ?_;refine aA.DN (E.KU) (E.HH) (hf) (r:=fun w=>Reads.any (tk) E.dJ .nil) (k:=?_);intro s hs;(refine Jn ?_))
   cases hv:E.V.empty (E.abs e) i.a.toNat with
   |true=>
    have e1:lB E i (E.abs e)=3:=by unfold lB;rw[if_neg (by omega),if_pos ⟨h27,hv⟩]
    have e2:oD E i (E.abs e)=i.a:=by unfold oD;rw[if_neg (by omega),if_pos ⟨h27,hv⟩]
    rw[e1,e2]
    repeat(refine Jy ?_)
    apply aB.draw 9 ([aD b (dV i) 113]) (by kernel_rfl) 10 rfl;refine JR 0 ?_;refine JR 1 ?_;refine JR 2 ?_;refine JR 3 ?_;refine JR 4 ?_;refine JR 5 ?_;(refine JT 6 ?_;(refine Jw ?_);refine JG ?_);refine JR 7 ?_;refine JR 8 ?_;(refine JT 9 ?_;(refine Jw ?_);refine JG ?_);(apply RunT.done;kernel_rfl)
    repeat(refine Jy ?_)
    (refine End.aH (()) (he:=Jv) (hp:=?_));trivial
   |false=>
    have e1:lB E i (E.abs e)=1:=by unfold lB;rw[if_neg (by omega),if_neg (by rw[hv];simp)]
    have e2:oD E i (E.abs e)=0:=by unfold oD;rw[if_neg (by omega),if_neg (by rw[hv];simp)]
    rw[e1,e2]
    repeat(refine Jy ?_)
    (refine End.aH (()) (he:=Jv) (hp:=?_));trivial
  ·have e1:lB E i (E.abs e)=1:=by unfold lB;rw[if_neg (by omega),if_neg (by omega)]
   have e2:oD E i (E.abs e)=0:=by unfold oD;rw[if_neg (by omega),if_neg (by omega)]
   rw[e1,e2]
   repeat(refine Jy ?_;try intro b)
   (refine End.aH (()) (he:=Jv) (hp:=?_));trivial
end
section
variable{E:cN}
abbrev SL.f(s:SL E):Vm.Fr:=s.cur.fr.getD (s.cur.fr.length-1) default
abbrev bH(m:ML)(s:SL E):ImgM.aY:=(m.us.getD s.f.unit default).u.code.getD s.f.pc default
structure lQ(m:ML)(s:SL E):Prop where
 fr:s.cur.fr≠[]
 dY:s.cur.fr.length≤40
 unit:s.f.unit<m.us.length
 pc:s.f.pc<(m.us.getD s.f.unit default).u.code.length
 box:(bH m s).op=26∨(bH m s).op=27→0≤(bH m s).a∧(bH m s).a.toNat<E.boxes
theorem aCY(p:Pl)(s:SL E)(he:E.ok s.e)(st bx:Int)(h4:3<s.st→st=s.st∧bx=s.bx)(h3:s.st≤3→lQ p.m s∧st=lB E (bH p.m s) (E.abs s.e)∧bx=oD E (bH p.m s) (E.abs s.e)):
  Fn Tryz.prog 31 #[ptr p.tb] [md p.m,E.rc] [iZ p s,kU p,iQ s.cur,gF s.cur,E.mem s.e] (σ:=Unit) (fun _=>True) (fun _=> .tuple #[]) (fun _=>[iZ p {s with st:=st,bx:=bx},kU p,iQ s.cur,gF s.cur,E.mem s.e]):=by
 refine JE [ptr p.tb] Tryz.func31 Tryz.ntmps31 fun w S=>?_
 (refine Jn ?_)
 by_cases hst:s.st≤3
 ·obtain⟨hs0,e1,e2⟩:=h3 hst;obtain⟨g1,g2,g3,g4,g5⟩:=hs0;have hl:0<s.cur.fr.length:=JP.2 g1;have w1:IntKind.i64.wrap ((s.cur.fr.length:Int)-1)=((s.cur.fr.length-1:Nat):Int):=by rw[dA (by omega)];omega
  repeat(refine Jy ?_)
  (refine Jc ?_;refine aA.aZ (spec:=aH2 E ⟨p.tb,p.mb, .slice s.co s.bs.length s.ccap,s.cur.cb,s.bx, .slice s.oo s.out.length s.oc⟩ s.st s.tr s.e he (bH p.m s) g5) (r:=fun w=>Reads.any (tk) E.dJ .nil) (k:=?_);intro s hs;(refine Jn ?_));rw[e1,e2]
  repeat(refine Jy ?_)
  (refine End.cY (()) (hp:=?_));trivial
 ·obtain⟨e1,e2⟩:=h4 (by omega);rw[e1,e2]
  repeat(refine Jy ?_)
  (refine End.cY (()) (hp:=?_));trivial
end
structure YM(u:Nat)(ws:List Int)(c:b9):Prop where
 st:c.st=0
 up:c.up=none
 upb:c.upb=none
 fr:c.fr=[⟨u,0,0⟩]
 ok:c.sk.Ok
 ws:c.sk.ws=ws
theorem OS(tb mb:Nat)(m:ML)(rest:List Value)(u:Nat)(hu:u<m.us.length)(ao:Option Addr)(cap:Nat)(a:List Int)(hl:(m.us.getD u default).u.locals.length≤200)(ha:a.length≤400):
  Fn Tryz.prog 59 #[ptr tb, .int .i64 (u:Int), .slice ao a.length cap] [md m,rd ao a.length cap aT a] [aD tb (ptr mb::rest) 103,aD mb (fN m) 26] (σ:=b9)
   (YM u ((List.range (m.us.getD u default).u.locals.length).map fun i=>a.getD i 0)) (fun c=>ptr c.cb) (fun c=>[iQ c,gF c,aD c.sk.sb (mG c.sk) 236,arr (some ⟨c.sk.lb,0,none⟩) c.sk.l.length c.sk.l.length 2 aT c.sk.l,aD tb (ptr mb::rest) 103,aD mb (fN m) 26]):=by
 refine JE [ptr tb, .int .i64 (u:Int), .slice ao a.length cap] Tryz.func59 Tryz.ntmps59 fun w S=>?_
 (refine Jn ?_)
 repeat(refine Jy ?_)
 (refine JQ (aDS) ?_;intro s hs;(refine Jn ?_));obtain⟨hk0,hw0,hl0⟩:=hs
 repeat(refine Jy ?_;try intro b)
 obtain⟨cb,rfl⟩:∃x,x=b:=⟨_,rfl⟩;obtain⟨fb,rfl⟩:∃x,x=b:=⟨_,rfl⟩;obtain⟨k0,rfl⟩:∃x,x=s:=⟨_,rfl⟩;obtain⟨n,hn⟩:∃n,n=(m.us.getD u default).u.locals.length:=⟨_,rfl⟩;rw[←hn]at hl⊢;apply aB.loop (σ:=Nat×Sk) (fun s=>s.1≤n∧s.2.Ok∧s.2.sb=k0.sb∧s.2.ws=(List.range s.1).map fun i=>a.getD i 0) (fun s=>[(0,ptr tb),(1, .int .i64 (u:Int)),(2, .slice ao a.length cap),(7,ptr cb),(27, .int .i64 (n:Int)),(28, .int .i64 (s.1:Int))]) (fun s=>aI w S::rd ao a.length cap aT a::aD tb (ptr mb::rest) 103::aD mb (fN m) 26::aD cb (O8 0 (.pointer none) (.slice (some ⟨fb,0,none⟩) 1 1) k0.sb) 168::aD fb (cP ⟨u,0,0⟩) 171::gZ s.2) (fun s=>n-s.1) (0,k0)
 rotate_left
 exact sb;exact aK;intro s hs K hK;(refine Jn ?_)
 rotate_left
 ·exact⟨bP _,hk0,rfl,by simp[hw0]⟩
 obtain⟨i,k⟩:=s;obtain⟨hi,hk,hsb,hws⟩:=hs;simp only at hi hk hsb hws hK⊢;have hlen:k.live=i:=by
  have h:=Sk.len hk;rw[hws]at h;simpa using h.symm
 have hst:∀(v:Int) (k':Sk),v=a.getD i 0→(if k.live=400 then k'=k else oM k k' (k.ws ++[v]))→i<n→(i+1≤n∧k'.Ok∧k'.sb=k0.sb∧k'.ws=(List.range (i+1)).map fun i=>a.getD i 0):=fun v k' hv h hi'=>by
  rw[if_neg (by omega)]at h;refine⟨hi',h.ok,h.sb.trans hsb,?_⟩;rw[h.ws,hws,oJ,Jq,hv];rfl
 rw[←hsb]
 by_cases hin:i<n
 ·by_cases hia:i<a.length
  ·repeat(refine Jy ?_)
   (refine JQ (L9 k hk (a.getD i default)) ?_;intro s hs;(refine Jn ?_));have hh:=hst _ _ rfl hs hin;have hsb2:k.sb=s.sb:=by rw[hsb,hh.2.2.1]
   repeat(refine Jy ?_)
   rw[hsb];refine End.o3 hK (i+1,s) ?_ ?_
   ·exact hh
   ·simp only;omega
  ·repeat(refine Jy ?_)
   (refine JQ (L9 k hk 0) ?_;intro s hs;(refine Jn ?_));have hh:=hst _ _ (by rw[Jd,tV (by omega)];rfl) hs hin
   repeat(refine Jy ?_)
   rw[hsb];refine End.o3 hK (i+1,s) ?_ ?_
   ·exact hh
   ·simp only;omega
 ·obtain rfl:i=n:=by omega
  repeat(refine Jy ?_)
  apply End.imp (fun w hm=>Mem.mJ (b:=fb) (e:=171) (f:=cP) (n:=1) hm (tk) [⟨u,0,0⟩] rfl rfl (by unfold maxLen;simp));refine End.aH (⟨cb,0,none,none,some ⟨fb,0,none⟩,1,[⟨u,0,0⟩],k⟩:b9) (he:=by rfl) (hp:=⟨rfl,rfl,rfl,rfl,hk,hws⟩)
end
section
variable{E:cN}{s:SL E}
abbrev SL.put(s:SL E)(q:Sk×Int×Int×E.μ):SL E:={s with cur:={s.cur with sk:=q.1},st:=q.2.1,tr:=q.2.2.1,e:=q.2.2.2}
abbrev SL.sk(s:SL E)(k:Sk):SL E:={s with cur:={s.cur with sk:=k}}
abbrev SL.b6(s:SL E)(st tr:Int)(e:E.μ):SL E:={s with st:=st,tr:=tr,e:=e}
theorem SL.Wf.b6(h:s.Wf){st tr:Int}{e:E.μ}(he:E.ok e):(s.b6 st tr e).Wf:=⟨h.now,h.len,h.dY,h.at_,h.up,h.lL,h.sk,he⟩
theorem vJ{n:Int}{q:Int×Int×E.μ}(h:s.Wf)(t:G9 E n s.st s.tr s.e q):(s.b6 q.1 q.2.1 q.2.2).Wf∧(s.b6 q.1 q.2.1 q.2.2).two=Vm.dS E.V n s.two:=by
 by_cases h5:s.st=5
 ·have e:=t.aI h5;subst e;refine⟨h,?_⟩;unfold Vm.dS;rw[if_pos (show s.two.1.st=5 from h5)]
 ·obtain⟨h1,h2,h3,h4⟩:=t.new h5;refine⟨h.b6 h3,?_⟩;unfold Vm.dS;rw[if_neg (show¬s.two.1.st=5 from h5)];show(SL.tk _,E.abs q.2.2)=_;rw[h4,h1,h2];rfl
theorem SL.Wf.AL(h:s.Wf):(Vm.cur s.two.1).ws.length=s.cur.sk.live:=by
 show(Vm.cur s.tk).ws.length=_;rw[h.cur];exact Sk.len h.cX
theorem SL.Wf.VR(h:s.Wf){k:Sk}{xs:List Int}(t:oM s.cur.sk k xs):(s.sk k).Wf∧(s.sk k).tk=Vm.setCur s.tk {Vm.cur s.tk with ws:=xs}:=by
 refine⟨h.setCur rfl rfl rfl t.ok,?_⟩;rw[SL.tM,h.cur];show Vm.setCur s.tk ⟨s.cur.st,s.cur.up,s.cur.fr,k.ws⟩=_;rw[t.ws];rfl
theorem lI{v:Int}{q:Sk×Int×Int×E.μ}(h:s.Wf)(t:OG E v s.cur.sk s.st s.tr s.e q):(s.put q).Wf∧(s.put q).two=Vm.push E.V v s.two:=by
 obtain⟨k,st,tr,e⟩:=q;unfold Vm.push
 by_cases h4:s.cur.sk.live=400
 ·obtain⟨e1,e2⟩:=t.full h4;simp only at e1 e2;subst e1;rw[if_pos (by rw[h.AL];exact h4)];exact vJ h e2
 ·obtain⟨e1,e2⟩:=t.room h4;simp only[wD]at e1 e2;obtain⟨rfl,rfl,rfl⟩:=e2;rw[if_neg (by rw[h.AL];exact h4)];obtain⟨g1,g2⟩:=h.VR e1;refine⟨g1,?_⟩;show((s.sk k).tk,E.abs s.e)=_;rw[g2,h.cur];show _=(Vm.setCur s.tk {Vm.cur s.tk with ws:=(Vm.cur s.tk).ws ++[v]},E.abs s.e);rw[h.cur];rfl
theorem mD{n:Nat}{k:Sk}(h:s.Wf)(t:oM s.cur.sk k (s.cur.sk.ws.take (s.cur.sk.live-n))):(s.sk k).Wf∧(s.sk k).tk=Vm.drop n s.tk:=by
 obtain⟨g1,g2⟩:=h.VR t;refine⟨g1,?_⟩;rw[g2];unfold Vm.drop;have:=h.AL;have e:(Vm.cur s.tk).ws.length=s.cur.sk.live:=this;rw[e,h.cur];rfl
theorem SL.Wf.last(h:s.Wf):Vm.last s.tk=s.cur.sk.ws.getD (s.cur.sk.live-1) 0:=by
 unfold Vm.last;have e:(Vm.cur s.tk).ws.length=s.cur.sk.live:=h.AL;rw[e,h.cur];rfl
theorem SL.Wf.fK(h:s.Wf):Vm.fK (Vm.cur s.tk)=s.cur.fr.getD (s.cur.fr.length-1) default:=by
 rw[h.cur];rfl
end
section
attribute [local irreducible] aE aB End aA Still aM aP RunT Fn aO
variable{E:cN}
structure iN(s:SL E)(r:Vm.Tk×E.ν)(s':SL E):Prop where
 wf:s'.Wf
 two:s'.two=r
abbrev SL.F(p:Pl)(s:SL E):TF:=⟨p.tb,p.mb, .slice s.co s.bs.length s.ccap,s.cur.cb,s.bx, .slice s.oo s.out.length s.oc⟩
theorem UF{ν:Type}(V:Vm.Env ν):∀(n:Nat) (s:Vm.Tk×ν),Vm.eV V (n+1) s=Vm.push V 0 (Vm.eV V n s)
 |0,s=>rfl
 |n+1,s=>by
  rw[Vm.eV,UF V n];rfl
set_option maxHeartbeats 1000000 in
theorem ZX(p:Pl)(z:SL E)(hz:z.Wf)(hsz:E.size (E.abs z.e)≤1000000)(u:Nat)(hu:u<p.m.us.length)(hp:0≤(p.m.us.getD u default).u.params)(hpl:(p.m.us.getD u default).u.params.toNat≤z.cur.sk.live)(hpL:(p.m.us.getD u default).u.params.toNat≤(p.m.us.getD u default).u.locals.length)(hl:(p.m.us.getD u default).u.locals.length≤200)(hf:z.cur.fr.length≤40):
  Fn Tryz.prog 106 #[ptr p.tb, .int .i64 (u:Int)] [md p.m,E.rc] (TM p z) (σ:=SL E) (iN z (Vm.rN E.V p.m.aC u z.two)) (fun _=> .tuple #[]) (fun z'=>TM p z'):=by
 obtain⟨g1,g2,g3⟩:=id hz.cX;have he:E.iE z.e:=⟨hz.env,by omega⟩;have hcl:(Vm.cur z.two.1).fr.length=z.cur.fr.length:=by
  show(Vm.cur z.tk).fr.length=_;rw[hz.cur];rfl
 obtain⟨n,hn⟩:∃n,n=(p.m.us.getD u default).u.locals.length-(p.m.us.getD u default).u.params.toNat:=⟨_,rfl⟩;obtain⟨bse,hbse⟩:∃n,n=z.cur.sk.live-(p.m.us.getD u default).u.params.toNat:=⟨_,rfl⟩;have w1:IntKind.i64.wrap ((z.cur.sk.live:Int)-(p.m.us.getD u default).u.params)=(bse:Int):=by rw[dA (by omega)];omega
 have w2:IntKind.i64.wrap (((p.m.us.getD u default).u.locals.length:Int)-(p.m.us.getD u default).u.params)=(n:Int):=by rw[dA (by omega)];omega
 refine JE [ptr p.tb, .int .i64 (u:Int)] Tryz.func106 Tryz.ntmps106 fun w S=>?_
 (refine Jn ?_)
 repeat(refine Jy ?_)
 apply aB.draw 10 ([iQ z.cur,md p.m]) (by kernel_rfl) 11 rfl;refine JR 0 ?_;refine JR 1 ?_;refine JR 2 ?_;refine JR 3 ?_;refine JR 5 ?_;refine JR 6 ?_;refine JR 7 ?_;refine JR 8 ?_;(refine JT 4 ?_;refine JK (EK z.cur.sk) ?_;intro s hs;refine JG ?_;(refine Jn ?_));refine JR 9 ?_;refine RunT.B5 10 (h:=aA.b8 (k:=And.intro uP ?_));(apply RunT.done;kernel_rfl)
 by_cases h40:z.cur.fr.length=40
 ·repeat(refine Jy ?_)
  (refine Jc ?_;refine aA.aZ (spec:=vI E (z.F p) z.st z.tr z.e he 4) (r:=fun w=>Reads.any (tk) E.dJ .nil) (k:=?_);intro s hs;(refine Jn ?_))
  repeat(refine Jy ?_)
  obtain⟨t1,t2⟩:=vJ hz hs;(refine End.oN ((z.b6 s.1 s.2.1 s.2.2)) (hp:=?_));refine⟨t1,t2.trans ?_⟩;unfold Vm.rN;rw[if_pos (hcl.trans h40)]
 ·repeat(refine Jy ?_;try intro b)
  (apply aE.op;exact rfl;refine aA.jL (a:=(⟨u,0,bse⟩:Vm.Fr)) (k:=?_);intro ao cap);obtain⟨z1,hz1⟩:∃z1:SL E,z1={z with cur:={z.cur with fo:=ao,fc:=cap,fr:=z.cur.fr ++[⟨u,0,bse⟩]}}:=⟨_,rfl⟩;have hw1:z1.Wf:=by rw[hz1];exact hz.setCur rfl rfl rfl hz.cX
  repeat(refine Jy ?_)
  apply aB.loop (σ:=Nat×(Sk×Int×Int×E.μ)) (fun s=>s.1≤n∧(z1.put s.2).Wf∧(z1.put s.2).two=Vm.eV E.V s.1 z1.two) (fun s=>[(0,ptr p.tb),(59, .int .i64 (n:Int)),(60, .int .i64 (s.1:Int))]) (fun s=>aI w S::E.rc::E.tc (z.F p) s.2.2.1 s.2.2.2.1::kU p::A7 z::TD z::kO (z.oth.eraseIdx z.now)::E.mem s.2.2.2.2::cc z.cur.cb (z.cur.st:Int) (eM z.cur.upb) (.slice ao (z.cur.fr.length+1) cap) s.2.1.sb::arr ao (z.cur.fr.length+1) cap 171 cP (z.cur.fr ++[⟨u,0,bse⟩])::gZ s.2.1) (fun s=>n-s.1) (0,z.cur.sk,z.st,z.tr,z.e)
  rotate_left
  exact sb;exact aK;intro s hs K hK;(refine Jn ?_)
  rotate_left
  ·refine⟨bP _,?_,?_⟩
   ·rw[hz1]at hw1⊢;exact hw1
   ·rw[hz1];rfl
  obtain⟨i,k,st,tr,e⟩:=s;obtain⟨hi,hw,h2⟩:=hs;simp only at hi hw h2 hK⊢
  by_cases hin:i<n
  ·have hkk:E.iE e:=⟨hw.env,by
    have h5:=UK E i z1.two;rw[←h2]at h5;have h6:E.size (E.abs e)≤E.size (E.abs z1.e)+i:=h5;have h7:z1.e=z.e:=by rw[hz1]
    rw[h7]at h6;omega⟩
   repeat(refine Jy ?_)
   (refine Jc ?_;refine aA.aZ (spec:=lH E (z.F p) st tr e hkk (z.cur.st:Int) (eM z.cur.upb) (.slice ao (z.cur.fr.length+1) cap) k hw.cX 0) (r:=fun w=>Reads.any (tk) E.dJ .nil) (k:=?_);intro s hs;(refine Jn ?_));obtain⟨t1,t2⟩:=lI hw hs
   repeat(refine Jy ?_)
   refine End.o3 hK (i+1,s) ?_ ?_
   ·refine⟨hin,t1,?_⟩;rw[UF,←h2];exact t2
   ·simp only;omega
  ·obtain rfl:i=n:=by omega
   repeat(refine Jy ?_)
   subst hz1;(refine End.cY (SL.put {z with cur:={z.cur with fo:=ao,fc:=cap,fr:=z.cur.fr ++[⟨u,0,bse⟩]}} (k,st,tr,e)) (ht:=Jx) (hp:=?_));refine⟨hw,h2.trans ?_⟩;unfold Vm.rN;rw[if_neg (fun h=>h40 (hcl.symm.trans h))];have e1:(Vm.bD p.m.aC u).locals.length-(Vm.bD p.m.aC u).params.toNat=i:=by unfold Vm.bD;rw[ML.jI];exact hn.symm
   have e2:(Vm.cur z.tk).ws.length-(Vm.bD p.m.aC u).params.toNat=bse:=by rw[show(Vm.cur z.tk).ws.length=z.cur.sk.live from hz.AL];unfold Vm.bD;rw[ML.jI];exact hbse.symm
   show _=Vm.eV E.V _ (Vm.setCur z.tk {Vm.cur z.tk with fr:=(Vm.cur z.tk).fr ++[⟨u,0,(Vm.cur z.tk).ws.length-(Vm.bD p.m.aC u).params.toNat⟩]},E.abs z.e);rw[e1,e2,hz.cur];unfold SL.two;rw[SL.tM];rfl
end
theorem aE.imp'{P:Program}{ops:Array Oper}{Q:Exit→Act→World→Prop}{N:Nd}{l:List Oper}{E:Env}{L L':List Chunk}(t:∀w,Mem w L→Mem w L')(h:aE P ops Q N l E L'):aE P ops Q N l E L:=fun a w hs hm=>h a w hs (t w hm)
theorem Q7{α:Type} [Inhabited α]:∀{l:List α} {k:Nat},k<l.length→l.Perm (l.getD k default::l.eraseIdx k)
 |a::l,0,_=>List.Perm.refl _
 |a::l,k+1,h=>by
  have ih:=Q7 (l:=l) (k:=k) (by simpa using h);exact(List.Perm.cons a ih).trans (List.Perm.swap _ _ _)
theorem QU(l:List b9){k:Nat}(h:k<l.length):(l.flatMap gY).Perm (gY (l.getD k default) ++(l.eraseIdx k).flatMap gY):=by
 have:=(Q7 h).flatMap_right gY;simpa only[vY]using this
theorem QC{α:Type}(l:List α)(k:Nat)(a:α):(l.set k a).eraseIdx k=l.eraseIdx k:=List.eraseIdx_set_eq
theorem getD_set_ne{l:List b9}{j k:Nat}{c:b9}(h:j≠k):(l.set j c).getD k default=l.getD k default:=by
 simp only[Jd];rw[List.getElem?_set_ne h]
theorem D7{l:List b9}{k:Nat}{c:b9}(h:k<l.length):(l.set k c).getD k default=c:=by
 simp only[Jd];rw[JS h];rfl
theorem PG(c:b9):∀d∈gY c,d.bB=true:=by
 unfold gY;simp[kG,dX]
theorem Mem.swap{w:World}{L L' F:List Chunk}{l:List b9}{c:b9}{j k:Nat}(h:Mem w L)(t:Take (kO (l.eraseIdx j)) L L')(t2:aQ (gY c) L' F)(hj:j<l.length)(hk:k<l.length)(hne:j≠k):Mem w (gY (l.getD k default) ++(kO ((l.set j c).eraseIdx k)::F)):=by
 have h1:Mem w (aR ((l.set j c).flatMap gY)::F):=by
  refine Mem.mA (es:=(l.eraseIdx j).flatMap gY) (ds:=gY c) h t t2 ?_ (PG c);have:=QU (l.set j c) (k:=j) (by simpa using hj);rwa [D7 hj,QC]at this
 have h2:=Mem.nO (ds:=gY (l.getD k default)) (es:=((l.set j c).eraseIdx k).flatMap gY) h1 .head (by
  have:=QU (l.set j c) (k:=k) (by simpa using hk);rwa [getD_set_ne hne]at this)
 exact h2
section
variable{E:cN}{s:SL E}
abbrev SL.go(s:SL E)(c:b9)(j:Nat)(d:b9):SL E:={s with oth:=s.oth.set s.now c,now:=j,cur:=d}
theorem SL.I4(s:SL E)(c d:b9)(j:Nat):(s.go c j d).all=(s.oth.set s.now c).set j d:=rfl
theorem SL.Wf.oth(h:s.Wf){j:Nat}(hj:s.now≠j):s.all.getD j default=s.oth.getD j default:=getD_set_ne hj
theorem SL.aB6(s:SL E)(c d:b9)(j:Nat):(s.go c j d).tk={Vm.dM (Vm.setCur s.tk c.abs) j d.abs with now:=j}:=by
 unfold SL.tk Vm.setCur Vm.dM SL.all;simp only[List.map_set,List.set_set]
theorem SL.Wf.go(h:s.Wf){c d:b9}{j:Nat}(hj:j<s.oth.length)(hne:s.now≠j)(hc:c.cb=s.cur.cb∧c.sk.Ok∧c.upb=c.up.map (fun j=>s.bs.getD j 0)∧∀i,c.up=some i→i<s.oth.length)
  (hd:d.cb=(s.oth.getD j default).cb∧d.sk.Ok∧d.upb=d.up.map (fun j=>s.bs.getD j 0)∧∀i,d.up=some i→i<s.oth.length):(s.go c j d).Wf:=by
 have hmem:∀x∈(s.go c j d).all,x=c∨x=d∨x∈s.all:=fun x hx=>by
  rw[SL.I4]at hx;obtain⟨i,hi,e⟩:=List.mem_iff_getElem.1 hx;rw[tZ]at e
  split at e
  ·exact .inr (.inl e.symm)
  rw[tZ]at e
  split at e
  ·exact .inl e.symm
  ·rename_i hne'
   right;right
   rw[←e];unfold SL.all;refine List.mem_iff_getElem.2 ⟨i,by simpa using hi,?_⟩;rw[List.getElem_set_ne hne']
 refine⟨by simpa using hj,by simpa using h.len,by simpa using h.dY,fun i hi=>?_,fun x hx=>?_,fun x hx i hi=>?_,fun x hx=>?_,h.env⟩
 ·have hi:i<s.oth.length:=by simpa using hi
  rw[SL.I4]
  by_cases hij:j=i
  ·subst hij;rw[D7 (by simpa using hi),hd.1,←h.at_ j hi,h.oth hne]
  ·rw[getD_set_ne hij]
   by_cases hin:s.now=i
   ·subst hin;rw[D7 hi,hc.1,←h.at_ _ hi,h.wK]
   ·rw[getD_set_ne hin,←h.at_ i hi,h.oth hin]
 ·rcases hmem x hx with rfl|rfl|hx
  ·exact hc.2.2.1
  ·exact hd.2.2.1
  ·exact h.up x hx
 ·show i<(s.oth.set _ _).length;rw[Ji];rcases hmem x hx with rfl|rfl|hx
  ·exact hc.2.2.2 i hi
  ·exact hd.2.2.2 i hi
  ·exact h.lL x hx i hi
 ·rcases hmem x hx with rfl|rfl|hx
  ·exact hc.2.1
  ·exact hd.2.1
  ·exact h.sk x hx
theorem SL.RE(s:SL E)(c:b9){j:Nat}(hj:j<s.oth.length)(hne:s.now≠j):(s.go c j (s.oth.getD j default)).tk={Vm.setCur s.tk c.abs with now:=j}:=by
 unfold SL.tk Vm.setCur Vm.dM;rw[SL.I4];have e:(s.oth.set s.now c).set j (s.oth.getD j default)=s.oth.set s.now c:=by
  refine mT (by simp) fun i h1 h2=>?_
  rw[tZ]
  split
  ·rename_i h
   subst h;rw[List.getElem_set_ne hne,Jd,Je hj];rfl
  ·rfl
 rw[e];unfold SL.all;simp only[List.map_set,List.set_set]
theorem Mem.F8{w:World}{L L' F:List Chunk}{l:List b9}(c:b9){j k:Nat}(h:Mem w L)(t:Take (kO (l.eraseIdx j)) L L')(t2:aQ (gY c) L' F)(hj:j<l.length)(hk:k<l.length)(hne:j≠k):
  Mem w (iQ (l.getD k default)::gF (l.getD k default)::aD (l.getD k default).sk.sb (mG (l.getD k default).sk) 236::arr (some ⟨(l.getD k default).sk.lb,0,none⟩) (l.getD k default).sk.l.length (l.getD k default).sk.l.length 2 aT (l.getD k default).sk.l::kO ((l.set j c).eraseIdx k)::F):=Mem.swap h t t2 hj hk hne
theorem Mem.x6{w:World}{L L' F:List Chunk}{l:List b9}(c:b9){j k:Nat}(h:Mem w L)(t:Take (kO ((l.set j c).eraseIdx k)) L L')(t2:aQ (gY (l.getD k default)) L' F)(hj:j<l.length)(hk:k<l.length)(hne:j≠k):
  Mem w (iQ c::gF c::aD c.sk.sb (mG c.sk) 236::arr (some ⟨c.sk.lb,0,none⟩) c.sk.l.length c.sk.l.length 2 aT c.sk.l::kO (l.eraseIdx j)::F):=by
 have h1:=Mem.F8 (l:=l.set j c) (l.getD k default) h t t2 (by simpa using hk) (by simpa using hj) (fun e=>hne e.symm);have e2:((l.set j c).set k (l.getD k default))=l.set j c:=by
  refine mT (by simp) fun i h1 h2=>?_
  rw[tZ]
  split
  ·rename_i h
   subst h;rw[List.getElem_set_ne hne,Jd,Je hk];rfl
  ·rfl
 rw[D7 hj,e2,QC]at h1;exact h1
theorem SL.Wf.DM(h:s.Wf){j:Nat}(hj:j<s.oth.length)(hne:s.now≠j):s.bs.getD j 0=(s.oth.getD j default).cb:=by rw[←h.at_ j hj,h.oth hne]
theorem SL.Wf.LR(h:s.Wf){j:Nat}(hj:j<s.oth.length)(hne:s.now≠j):s.oth.getD j default∈s.all:=by
 rw[←h.oth hne];exact dQ (by rw[s.uG];exact hj)
end
section
attribute [local irreducible] aE aB End aA Still aM aP RunT Fn aO
section
variable{E:cN}
set_option maxHeartbeats 1000000 in
theorem aAh(p:Pl)(z:SL E)(hz:z.Wf)(hsz:E.size (E.abs z.e)≤1000000)(hj:∀j,z.cur.up=some j→z.now≠j):
  Fn Tryz.prog 107 #[ptr p.tb] [E.rc] (TM p z) (σ:=SL E) (iN z (Vm.qM E.V z.two)) (fun _=> .tuple #[]) (fun z'=>TM p z'):=by
 have he:E.iE z.e:=⟨hz.env,by omega⟩;have hub:=hz.up _ hz.sV;have hcur:=hz.cur
 cases hup:z.cur.up with
 |none=>
  rw[hup]at hub;have hcc:iQ z.cur=cc z.cur.cb (z.cur.st:Int) (.pointer none) (.slice z.cur.fo z.cur.fr.length z.cur.fc) z.cur.sk.sb:=by unfold iQ;rw[hub];rfl
  refine JE [ptr p.tb] Tryz.func107 Tryz.ntmps107 fun w S=>?_
  (refine Jn ?_);unfold TM;rw[hcc]
  repeat(refine Jy ?_)
  (refine Jc ?_;refine aA.aZ (spec:=zU E (z.F p) 4 z.tr z.e he 4 0 0) (r:=fun w=>Reads.any (tk) E.dJ .nil) (k:=?_);intro s hs;(refine Jn ?_));obtain⟨k1,k2⟩:=hs
  repeat(refine Jy ?_)
  have hw1:({z with cur:={z.cur with st:=3,upb:=none}}:SL E).Wf:=hz.setCur rfl rfl (by rw[hub];rfl) hz.cX;(refine End.oN (({z with cur:={z.cur with st:=3,upb:=none},st:=4,e:=s}:SL E)) (hp:=?_));refine⟨hw1.b6 (st:=4) (tr:=z.tr) k1,?_⟩;unfold Vm.qM;have e1:(Vm.cur z.two.1).up=none:=(congrArg Vm.Co.up hcur).trans hup;rw[e1];show(SL.tk _,E.abs s)=({Vm.setCur z.tk {Vm.cur z.tk with st:=3}with st:=4},E.V.tell (E.abs z.e) (4,0,0));rw[k2,hcur];have e2:=SL.tM z {z.cur with st:=3,upb:=none};have e3:(b9.abs {z.cur with st:=3,upb:=none})=({z.cur.abs with st:=3}:Vm.Co):=rfl;rw[e3]at e2;rw[←e2];rfl
 |some j=>
  rw[hup]at hub;have hne:=hj j hup;have hlt:=hz.lL _ hz.sV j hup;have hcc:iQ z.cur=cc z.cur.cb (z.cur.st:Int) (ptr (z.bs.getD j 0)) (.slice z.cur.fo z.cur.fr.length z.cur.fc) z.cur.sk.sb:=by unfold iQ;rw[hub];rfl
  refine JE [ptr p.tb] Tryz.func107 Tryz.ntmps107 fun w S=>?_
  (refine Jn ?_);unfold TM;rw[hcc]
  repeat(refine Jy ?_)
  rw[hz.DM hlt hne];apply aE.imp' (fun w hm=>Mem.F8 {z.cur with st:=3,up:=none,upb:=none} hm (tk) (aK) hz.now hlt hne);have hd:=hz.LR hlt hne;have hw1:(z.go {z.cur with st:=3,up:=none,upb:=none} j (z.oth.getD j default)).Wf:=hz.go hlt hne ⟨rfl,hz.cX,rfl,fun i h=>by simp at h⟩ ⟨rfl,hz.sk _ hd,hz.up _ hd,hz.lL _ hd⟩;(refine Jc ?_;refine aA.aZ (spec:=lH E (SL.F p (z.go {z.cur with st:=3,up:=none,upb:=none} j (z.oth.getD j default))) z.st z.tr z.e he ((z.oth.getD j default).st:Int) (eM (z.oth.getD j default).upb) (.slice (z.oth.getD j default).fo (z.oth.getD j default).fr.length (z.oth.getD j default).fc) (z.oth.getD j default).sk (hz.sk _ hd) 0) (r:=fun w=>Reads.any (tk) E.dJ .nil) (k:=?_);intro s hs;(refine Jn ?_));obtain⟨t1,t2⟩:=lI hw1 hs
  repeat(refine Jy ?_)
  (refine End.cY (((z.go {z.cur with st:=3,up:=none,upb:=none} j (z.oth.getD j default)).put s)) (hp:=?_));refine⟨t1,t2.trans ?_⟩;unfold Vm.qM;have e1:(Vm.cur z.two.1).up=some j:=(congrArg Vm.Co.up hcur).trans hup;rw[e1];show Vm.push E.V 0 (SL.tk _,E.abs z.e)=Vm.push E.V 0 ({Vm.setCur z.tk {Vm.cur z.tk with st:=3,up:=none}with now:=j},E.abs z.e);rw[SL.RE z _ hlt hne,hcur];rfl
def rT{ν:Type}(V:Vm.Env ν)(k:Nat)(v:Int)(s:Vm.Tk×ν):Vm.Tk×ν:=
 if(s.1.cs.getD k default).st=3 then Vm.dS V 2 s
 else if(s.1.cs.getD k default).st=2 then Vm.dS V 3 s
 else if(s.1.cs.getD k default).st=0 then({Vm.dM s.1 k {s.1.cs.getD k default with st:=2,up:=some s.1.now}with now:=k},s.2)
 else Vm.push V v ({Vm.dM s.1 k {s.1.cs.getD k default with st:=2,up:=some s.1.now}with now:=k},s.2)
theorem aEk{ν:Type}(V:Vm.Env ν)(s:Vm.Tk×ν):Vm.tI V s=rT V (Vm.last (Vm.drop 1 s.1)).toNat (Vm.last s.1) (Vm.drop 1 (Vm.drop 1 s.1),s.2):=rfl
theorem SL.Wf.H4{z:SL E}(hz:z.Wf){k:Nat}(hk:k<z.oth.length):z.tk.cs.getD k default=(z.all.getD k default).abs:=I0 _ _ (by rw[z.uG];exact hk)
set_option maxHeartbeats 1000000 in
theorem aEl(p:Pl)(z:SL E)(hz:z.Wf)(hsz:E.size (E.abs z.e)≤1000000)(k:Nat)(hk:k<z.oth.length)(v:Int)(hg:z.cur.st=2)(hst:(z.oth.getD k default).st≤3∨k=z.now):
  Fn Tryz.prog 109 #[ptr p.tb,ptr (z.bs.getD k 0), .int .i64 v] [E.rc] (TM p z) (σ:=SL E) (iN z (rT E.V k v z.two)) (fun _=> .tuple #[]) (fun z'=>TM p z'):=by
 have he:E.iE z.e:=⟨hz.env,by omega⟩
 by_cases hkn:k=z.now
 ·subst hkn;rw[←hz.H5];refine JE [ptr p.tb,ptr z.cur.cb, .int .i64 v] Tryz.func109 Tryz.ntmps109 fun w S=>?_
  (refine Jn ?_)
  repeat(refine Jy ?_)
  (refine Jc ?_;refine aA.aZ (spec:=vI E (z.F p) z.st z.tr z.e he 3) (r:=fun w=>Reads.any (tk) E.dJ .nil) (k:=?_);intro s hs;(refine Jn ?_))
  repeat(refine Jy ?_)
  obtain⟨t1,t2⟩:=vJ hz hs;(refine End.oN ((z.b6 s.1 s.2.1 s.2.2)) (hp:=?_));refine⟨t1,t2.trans ?_⟩;unfold rT;have e1:z.two.1.cs.getD z.now default=z.cur.abs:=by rw[show z.two.1=z.tk from rfl,hz.H4 hk,hz.wK]
  rw[e1,if_neg (by show¬z.cur.st=3;omega),if_pos (show z.cur.abs.st=2 from hg)]
 ·have hne:z.now≠k:=fun h=>hkn h.symm
  have hst3:(z.oth.getD k default).st≤3:=hst.resolve_right hkn;rw[hz.DM hk hne];have e1:z.two.1.cs.getD k default=(z.oth.getD k default).abs:=by rw[show z.two.1=z.tk from rfl,hz.H4 hk,hz.oth hne]
  have hdm:=hz.LR hk hne;have hcd:(b9.abs (z.oth.getD k default)).st=(z.oth.getD k default).st:=rfl;refine JE [ptr p.tb,ptr (z.oth.getD k default).cb, .int .i64 v] Tryz.func109 Tryz.ntmps109 fun w S=>?_
  (refine Jn ?_);apply aB.imp (fun w hm=>Mem.F8 z.cur hm (tk) (aK) hz.now hk hne);obtain⟨d,hd⟩:∃d,d=z.oth.getD k default:=⟨_,rfl⟩;rw[←hd]at e1 hdm hcd hst3⊢;have hback:∀{w:World} {L L' F:List Chunk},Take (kO ((z.oth.set z.now z.cur).eraseIdx k)) L L'→aQ (gY d) L' F→Mem w L→Mem w (iQ z.cur::gF z.cur::aD z.cur.sk.sb (mG z.cur.sk) 236::arr (some ⟨z.cur.sk.lb,0,none⟩) z.cur.sk.l.length z.cur.sk.l.length 2 aT z.cur.sk.l::kO (z.oth.eraseIdx z.now)::F):=fun t t2 hm=>by
   rw[hd]at t2;exact Mem.x6 z.cur hm t t2 hz.now hk hne
  have hself:Vm.setCur z.tk z.cur.abs=z.tk:=(SL.tM z z.cur).symm;have hw1:(z.go z.cur k {d with st:=2,up:=some z.now,upb:=some z.cur.cb}).Wf:=hz.go hk hne ⟨rfl,hz.cX,hz.up _ hz.sV,hz.lL _ hz.sV⟩ ⟨by rw[hd],(hz.sk d hdm:d.sk.Ok),by rw[hz.H5];rfl,fun i h=>by simp at h;subst h;exact hz.now⟩;have htk:(z.go z.cur k {d with st:=2,up:=some z.now,upb:=some z.cur.cb}).tk={Vm.dM z.tk k {d.abs with st:=2,up:=some z.now}with now:=k}:=by
   rw[SL.aB6,hself];rfl
  by_cases h3:d.st=3
  ·repeat(refine Jy ?_)
   (refine Jc ?_;refine aA.aZ (spec:=vI E (z.F p) z.st z.tr z.e he 2) (r:=fun w=>Reads.any (tk) E.dJ .nil) (k:=?_);intro s hs;(refine Jn ?_))
   repeat(refine Jy ?_)
   obtain⟨t1,t2⟩:=vJ hz hs;apply End.imp (fun w hm=>hback (tk) (aK) hm);(refine End.oN ((z.b6 s.1 s.2.1 s.2.2)) (hp:=?_));refine⟨t1,t2.trans ?_⟩;unfold rT;rw[e1,if_pos (show d.abs.st=3 from h3)]
  ·by_cases h2:d.st=2
   ·repeat(refine Jy ?_)
    (refine Jc ?_;refine aA.aZ (spec:=vI E (z.F p) z.st z.tr z.e he 3) (r:=fun w=>Reads.any (tk) E.dJ .nil) (k:=?_);intro s hs;(refine Jn ?_))
    repeat(refine Jy ?_)
    obtain⟨t1,t2⟩:=vJ hz hs;apply End.imp (fun w hm=>hback (tk) (aK) hm);(refine End.oN ((z.b6 s.1 s.2.1 s.2.2)) (hp:=?_));refine⟨t1,t2.trans ?_⟩;unfold rT;rw[e1,if_neg (show¬d.abs.st=3 from h3),if_pos (show d.abs.st=2 from h2)]
   ·by_cases h0:d.st=0
    ·repeat(refine Jy ?_)
     (refine End.cY ((z.go z.cur k {d with st:=2,up:=some z.now,upb:=some z.cur.cb})) (hp:=?_));refine⟨hw1,?_⟩;unfold rT;rw[e1,if_neg (show¬d.abs.st=3 from h3),if_neg (show¬d.abs.st=2 from h2),if_pos (show d.abs.st=0 from h0)];show(SL.tk _,E.abs z.e)=_;rw[htk];rfl
    ·repeat(refine Jy ?_)
     (refine Jc ?_;refine aA.aZ (spec:=lH E (SL.F p (z.go z.cur k {d with st:=2,up:=some z.now,upb:=some z.cur.cb})) z.st z.tr z.e he 2 (ptr z.cur.cb) (.slice d.fo d.fr.length d.fc) d.sk (hz.sk _ hdm) v) (r:=fun w=>Reads.any (tk) E.dJ .nil) (k:=?_);intro s hs;(refine Jn ?_));obtain⟨t1,t2⟩:=lI hw1 hs
     repeat(refine Jy ?_)
     (refine End.cY (((z.go z.cur k {d with st:=2,up:=some z.now,upb:=some z.cur.cb}).put s)) (hp:=?_));refine⟨t1,t2.trans ?_⟩;unfold rT;rw[e1,if_neg (show¬d.abs.st=3 from h3),if_neg (show¬d.abs.st=2 from h2),if_neg (show¬d.abs.st=0 from h0)];show Vm.push E.V v (SL.tk _,E.abs z.e)=_;rw[htk];rfl
end
section
variable{E:cN}
structure YO(m:ML)(z:SL E)(i:ImgM.aY):Prop where
 a0:0≤i.a
 lt:i.a.toNat<m.us.length
 p0:0≤(m.us.getD i.a.toNat default).u.params
 pl:(m.us.getD i.a.toNat default).u.params.toNat≤z.cur.sk.live
 pL:(m.us.getD i.a.toNat default).u.params.toNat≤(m.us.getD i.a.toNat default).u.locals.length
 dY:(m.us.getD i.a.toNat default).u.locals.length≤200
 fr:z.cur.fr.length≤40
abbrev SL.top(z:SL E)(n:Nat):Int:=z.cur.sk.ws.getD (z.cur.sk.live-n) 0
structure vP(m:ML)(z:SL E)(i:ImgM.aY):Prop where
 call:i.op=23∨i.op=29→YO m z i
 ret:i.op=24→0<z.cur.sk.live∧z.cur.fr≠[]∧z.cur.fr.length≤40∧z.f.base≤z.cur.sk.live-1
 fin:i.op=25→∀j,z.cur.up=some j→z.now≠j
 res:i.op=30→2≤z.cur.sk.live∧0≤z.top 2∧(z.top 2).toNat<z.oth.length∧z.cur.st=2∧((z.oth.getD (z.top 2).toNat default).st≤3∨(z.top 2).toNat=z.now)
 yld:i.op=31→0<z.cur.sk.live∧∃j,z.cur.up=some j∧z.now≠j
 size:E.size (E.abs z.e)≤1000000
 alv:i.op=32→0<z.cur.sk.live∧0≤z.top 1∧(z.top 1).toNat<z.oth.length
set_option maxHeartbeats 1000000 in
theorem aHH(p:Pl)(z:SL E)(hz:z.Wf)(i:ImgM.aY)(hi:vP p.m z i)(h1:i.op=23∨i.op=24∨i.op=25):
  Fn Tryz.prog 67 #[ptr p.tb,kR i] [md p.m,E.rc] (TM p z) (σ:=SL E) (iN z (Vm.exec E.V p.m.aC i z.two)) (fun _=> .tuple #[]) (fun z'=>TM p z'):=by
 have he:E.iE z.e:=⟨hz.env,by have:=hi.size;omega⟩;refine JE [ptr p.tb,kR i] Tryz.func67 Tryz.ntmps67 fun w S=>?_
 (refine Jn ?_);rcases h1 with h1|h1|h1
 ·obtain⟨c1,c2,c3,c4,c5,c6,c7⟩:=hi.call (.inl h1);have hc:=ZX p z hz hi.size i.a.toNat c2 c3 c4 c5 c6 c7;rw[qF c1]at hc
  repeat(refine Jy ?_;try intro b)
  (refine JM (hc) ?_;intro s hs;(refine Jn ?_))
  repeat(refine Jy ?_)
  (refine End.cY (s) (hp:=?_));refine⟨hs.wf,hs.two.trans ?_⟩;unfold Vm.exec;simp[h1]
 ·obtain⟨c1,c2,c3,c4⟩:=hi.ret h1;have hl:0<z.cur.fr.length:=JP.2 c2;have w1:IntKind.i64.wrap ((z.cur.fr.length:Int)-1)=((z.cur.fr.length-1:Nat):Int):=by rw[dA (by omega)];omega
  repeat(refine Jy ?_;try intro b)
  (refine JQ (nC (z.F p) z.st z.tr (z.cur.st:Int) (eM z.cur.upb) (.slice z.cur.fo z.cur.fr.length z.cur.fc) E.jN (jH E.told) z.cur.sk hz.cX c1) ?_;intro s hs;(refine Jn ?_));obtain⟨k1,rfl⟩:∃x,x=s:=⟨_,rfl⟩;have ht:=hs;have hlv:k1.live=z.cur.sk.live-1:=by have h:=ht.live;have h2:=Sk.len hz.cX;rw[lE]at h;omega
  have w3:IntKind.i64.wrap ((k1.live:Int)-(z.f.base:Int))=((k1.live-z.f.base:Nat):Int):=by have:=ht.ok.live;have:=ht.ok.hi;rw[dA (by omega)];omega
  repeat(refine Jy ?_)
  apply aB.draw 13 ([cc z.cur.cb (z.cur.st:Int) (eM z.cur.upb) (.slice z.cur.fo z.cur.fr.length z.cur.fc) k1.sb,gF z.cur]) (by kernel_rfl) 14 rfl;refine JR 0 ?_;refine JR 1 ?_;refine JR 2 ?_;refine JR 3 ?_;refine JR 4 ?_;refine JR 5 ?_;refine JR 6 ?_;refine JR 7 ?_;refine JR 8 ?_;refine JR 9 ?_;refine JR 10 ?_;refine JR 11 ?_;(refine JT 12 ?_;(refine Jb ?_;intro b);refine JG ?_);(refine JT 13 ?_;(refine Jw ?_);refine JG ?_);(apply RunT.done;kernel_rfl);obtain⟨fb,rfl⟩:∃x,x=b:=⟨_,rfl⟩
  repeat(refine Jy ?_)
  apply aB.draw 14 ([cc z.cur.cb (z.cur.st:Int) (eM z.cur.upb) (.slice z.cur.fo z.cur.fr.length z.cur.fc) k1.sb]) (by kernel_rfl) 15 rfl;refine JR 0 ?_;refine JR 1 ?_;refine JR 2 ?_;refine JR 3 ?_;refine JR 4 ?_;refine JR 5 ?_;refine JR 6 ?_;refine JR 7 ?_;refine JR 8 ?_;refine JR 9 ?_;refine JR 10 ?_;(refine JT 11 ?_;(refine Ja ?_;intro ao cap);refine JG ?_);refine JR 12 ?_;refine JR 13 ?_;(refine JT 14 ?_;(refine Jw ?_);refine JG ?_);(apply RunT.done;kernel_rfl)
  repeat(refine Jy ?_)
  apply aB.draw 12 ([cc z.cur.cb (z.cur.st:Int) (eM z.cur.upb) (.slice ao (z.cur.fr.length-1) cap) k1.sb,aD fb (cP z.f) 171]) (by kernel_rfl) 13 rfl;refine JR 0 ?_;refine JR 1 ?_;refine JR 2 ?_;refine JR 3 ?_;refine JR 4 ?_;refine JR 5 ?_;refine JR 6 ?_;refine JR 7 ?_;refine JR 9 ?_;refine JR 10 ?_;(refine JT 8 ?_;refine JK (EK k1) ?_;intro s hs;refine JG ?_;(refine Jn ?_));refine JR 11 ?_;(refine JT 12 ?_;refine JK (L8 k1 ht.ok (k1.live-z.f.base) (by omega)) ?_;intro s hs;refine JG ?_;(refine Jn ?_));(apply RunT.done;kernel_rfl);obtain⟨k2,rfl⟩:∃x,x=s:=⟨_,rfl⟩;have ht2:=hs;have ht3:oM z.cur.sk k2 ((z.cur.sk.ws.take (z.cur.sk.live-1)).take z.f.base):=⟨ht2.ok,ht2.sb.trans ht.sb,by rw[ht2.ws,ht.ws];congr 1;omega,by have h:=ht2.live;rw[ht.ws]at h;rw[h];congr 2;omega⟩;have hsb:k1.sb=k2.sb:=ht2.sb.symm;rw[hsb]
  repeat(refine Jy ?_)
  have hw2:({z with cur:={z.cur with fo:=ao,fc:=cap,fr:=z.cur.fr.take (z.cur.fr.length-1),sk:=k2}}:SL E).Wf:=hz.setCur rfl rfl rfl ht3.ok;(refine Jc ?_;refine aA.aZ (spec:=lH E (z.F p) z.st z.tr z.e he (z.cur.st:Int) (eM z.cur.upb) (.slice ao (z.cur.fr.length-1) cap) k2 ht3.ok (z.top 1)) (r:=fun w=>Reads.any (tk) E.dJ .nil) (k:=?_);intro s hs;(refine Jn ?_));obtain⟨t1,t2⟩:=lI hw2 hs
  repeat(refine Jy ?_)
  (refine End.cY ((SL.put {z with cur:={z.cur with fo:=ao,fc:=cap,fr:=z.cur.fr.take (z.cur.fr.length-1),sk:=k2}} s)) (ht:=Jx) (hp:=?_));refine⟨t1,t2.trans ?_⟩;have e0:Vm.exec E.V p.m.aC i z.two=Vm.ret E.V z.two:=by unfold Vm.exec;simp[h1]
  rw[e0];have e3:b9.abs {z.cur with fo:=ao,fc:=cap,fr:=z.cur.fr.take (z.cur.fr.length-1),sk:=k2}=({z.cur.abs with fr:=z.cur.abs.fr.take (z.cur.abs.fr.length-1),ws:=(z.cur.abs.ws.take (z.cur.abs.ws.length-1)).take (Vm.fK z.cur.abs).base}:Vm.Co):=by
   show(⟨z.cur.st,z.cur.up,_,k2.ws⟩:Vm.Co)=⟨_,_,_,(z.cur.sk.ws.take (z.cur.sk.ws.length-1)).take z.f.base⟩;rw[ht3.ws,show z.cur.sk.ws.length=z.cur.sk.live from Sk.len hz.cX];rfl
  unfold Vm.ret;show Vm.push E.V (z.top 1) (SL.tk _,E.abs z.e)=Vm.push E.V (Vm.last z.tk) (Vm.setCur z.tk {Vm.cur z.tk with fr:=(Vm.cur z.tk).fr.take ((Vm.cur z.tk).fr.length-1),ws:=((Vm.cur z.tk).ws.take ((Vm.cur z.tk).ws.length-1)).take (Vm.fK (Vm.cur z.tk)).base},E.abs z.e);rw[hz.last,SL.tM,hz.cur,e3]
 ·have hc:=aAh p z hz hi.size (hi.fin h1)
  repeat(refine Jy ?_;try intro b)
  (refine Jc ?_;refine aA.aZ (spec:=hc) (r:=fun w=>Reads.any (tk) E.dJ .nil) (k:=?_);intro s hs;(refine Jn ?_))
  repeat(refine Jy ?_)
  (refine End.cY (s) (hp:=?_));refine⟨hs.wf,hs.two.trans ?_⟩;unfold Vm.exec;simp[h1]
end
variable{E:cN}
set_option maxHeartbeats 1000000 in
theorem aHI(p:Pl)(z:SL E)(hz:z.Wf)(i:ImgM.aY)(hi:vP p.m z i)(h1:i.op=31):
  Fn Tryz.prog 67 #[ptr p.tb,kR i] [md p.m,E.rc] (TM p z) (σ:=SL E) (iN z (Vm.exec E.V p.m.aC i z.two)) (fun _=> .tuple #[]) (fun z'=>TM p z'):=by
 have he:E.iE z.e:=⟨hz.env,by have:=hi.size;omega⟩;have e0:Vm.exec E.V p.m.aC i z.two=Vm.xO E.V z.two:=by unfold Vm.exec;simp[h1]
 rw[e0];obtain⟨c1,j,hup,hne⟩:=hi.yld h1;have hub:=hz.up _ hz.sV;rw[hup]at hub;have hlt:=hz.lL _ hz.sV j hup;have hcc:iQ z.cur=cc z.cur.cb (z.cur.st:Int) (ptr (z.bs.getD j 0)) (.slice z.cur.fo z.cur.fr.length z.cur.fc) z.cur.sk.sb:=by unfold iQ;rw[hub];rfl
 refine JE [ptr p.tb,kR i] Tryz.func67 Tryz.ntmps67 fun w S=>?_
 (refine Jn ?_);unfold TM;rw[hcc]
 repeat(refine Jy ?_;try intro b)
 (refine JQ (nC (z.F p) z.st z.tr (z.cur.st:Int) (ptr (z.bs.getD j 0)) (.slice z.cur.fo z.cur.fr.length z.cur.fc) E.jN (jH E.told) z.cur.sk hz.cX c1) ?_;intro s hs;(refine Jn ?_));obtain⟨k1,rfl⟩:∃x,x=s:=⟨_,rfl⟩;have ht:=hs
 repeat(refine Jy ?_)
 rw[hz.DM hlt hne];apply aE.imp' (fun w hm=>Mem.F8 {z.cur with st:=1,up:=none,upb:=none,sk:=k1} hm (tk) (aK) hz.now hlt hne);have hd:=hz.LR hlt hne;have hw1:(z.go {z.cur with st:=1,up:=none,upb:=none,sk:=k1} j (z.oth.getD j default)).Wf:=hz.go hlt hne ⟨rfl,ht.ok,rfl,fun i h=>by simp at h⟩ ⟨rfl,hz.sk _ hd,hz.up _ hd,hz.lL _ hd⟩;(refine Jc ?_;refine aA.aZ (spec:=lH E (SL.F p (z.go {z.cur with st:=1,up:=none,upb:=none,sk:=k1} j (z.oth.getD j default))) z.st z.tr z.e he ((z.oth.getD j default).st:Int) (eM (z.oth.getD j default).upb) (.slice (z.oth.getD j default).fo (z.oth.getD j default).fr.length (z.oth.getD j default).fc) (z.oth.getD j default).sk (hz.sk _ hd) (z.top 1)) (r:=fun w=>Reads.any (tk) E.dJ .nil) (k:=?_);intro s hs;(refine Jn ?_));obtain⟨t1,t2⟩:=lI hw1 hs
 repeat(refine Jy ?_)
 (refine End.cY (((z.go {z.cur with st:=1,up:=none,upb:=none,sk:=k1} j (z.oth.getD j default)).put s)) (hp:=?_));refine⟨t1,t2.trans ?_⟩;obtain⟨p1,p2⟩:=mD hz ht;unfold Vm.xO;have e4:Vm.cur (Vm.drop 1 z.tk)=({z.cur with sk:=k1}:b9).abs:=by rw[←p2];exact p1.cur
 show Vm.push E.V (z.top 1) (SL.tk _,E.abs z.e)=Vm.push E.V (Vm.last z.tk) ({Vm.setCur (Vm.drop 1 z.tk) {Vm.cur (Vm.drop 1 z.tk)with st:=1,up:=none}with now:=(Vm.cur (Vm.drop 1 z.tk)).up.getD 0},E.abs z.e);rw[hz.last,SL.RE z _ hlt hne,e4,←p2,show(z.sk k1).tk=Vm.setCur z.tk (b9.abs {z.cur with sk:=k1})from SL.tM z _,Vm.set_set,show(b9.abs {z.cur with sk:=k1}).up=some j from hup];rfl
set_option maxHeartbeats 1000000 in
theorem aHJ(p:Pl)(z:SL E)(hz:z.Wf)(i:ImgM.aY)(hi:vP p.m z i)(h1:i.op=30):
  Fn Tryz.prog 67 #[ptr p.tb,kR i] [md p.m,E.rc] (TM p z) (σ:=SL E) (iN z (Vm.exec E.V p.m.aC i z.two)) (fun _=> .tuple #[]) (fun z'=>TM p z'):=by
 have he:E.iE z.e:=⟨hz.env,by have:=hi.size;omega⟩;have e0:Vm.exec E.V p.m.aC i z.two=Vm.tI E.V z.two:=by unfold Vm.exec;simp[h1]
 rw[e0];obtain⟨c1,c2,c3,c4,c5⟩:=hi.res h1;obtain⟨q,hq⟩:=JI c2;rw[hq]at c3 c5;simp only[Jj,Int.ofNat_eq_natCast]at c3 c5 hq;refine JE [ptr p.tb,kR i] Tryz.func67 Tryz.ntmps67 fun w S=>?_
 (refine Jn ?_)
 repeat(refine Jy ?_;try intro b)
 apply aB.draw 11 ([iZ p z,A7 z]) (by kernel_rfl) 12 rfl;refine JR 0 ?_;refine JR 6 ?_;refine JR 2 ?_;refine JR 3 ?_;refine JR 4 ?_;refine JR 5 ?_;(refine JT 1 ?_;refine JK (nC (z.F p) z.st z.tr (z.cur.st:Int) (eM z.cur.upb) (.slice z.cur.fo z.cur.fr.length z.cur.fc) E.jN (jH E.told) z.cur.sk hz.cX (by omega)) ?_;intro s hs;refine JG ?_;(refine Jn ?_));obtain⟨k1,rfl⟩:∃x,x=s:=⟨_,rfl⟩;have ht:=hs;have hlv:k1.live=z.cur.sk.live-1:=by have h:=ht.live;have h2:=Sk.len hz.cX;rw[lE]at h;omega
 (refine JT 7 ?_;refine JK (nC (z.F p) z.st z.tr (z.cur.st:Int) (eM z.cur.upb) (.slice z.cur.fo z.cur.fr.length z.cur.fc) E.jN (jH E.told) k1 ht.ok (by omega)) ?_;intro s hs;refine JG ?_;(refine Jn ?_));obtain⟨k2,rfl⟩:∃x,x=s:=⟨_,rfl⟩;have ht2:=hs;have hv2:k1.ws.getD (k1.live-1) 0=(q:Int):=by
  rw[←hq,ht.ws,hlv];show(z.cur.sk.ws.take (z.cur.sk.live-1)).getD (z.cur.sk.live-1-1) 0=z.cur.sk.ws.getD (z.cur.sk.live-2) 0;rw[Jd,Jd,AW,if_pos (by omega),Nat.sub_sub]
 rw[hv2];have hqb:q<z.bs.length:=by rw[hz.len];exact c3
 refine JR 8 ?_;refine JR 9 ?_;refine JR 10 ?_;refine RunT.B5 11 (h:=aA.b8 (k:=And.intro uP ?_));(apply RunT.done;kernel_rfl);obtain⟨p1,p2⟩:=mD hz ht;obtain⟨p3,p4⟩:=mD p1 ht2;have hr:=aEl p (z.sk k2) p3 hi.size q c3 (z.top 1) c4 c5
 repeat(refine Jy ?_)
 (refine Jc ?_;refine aA.aZ (spec:=hr) (r:=fun w=>Reads.any (tk) E.dJ .nil) (k:=?_);intro s hs;(refine Jn ?_))
 repeat(refine Jy ?_)
 (refine End.cY (s) (hp:=?_));refine⟨hs.wf,hs.two.trans ?_⟩;rw[aEk];show rT E.V q (z.top 1) ((z.sk k2).tk,E.abs z.e)=rT E.V (Vm.last (Vm.drop 1 z.tk)).toNat (Vm.last z.tk) (Vm.drop 1 (Vm.drop 1 z.tk),E.abs z.e);rw[←p2,hz.last,p1.last,←p4];show _=rT E.V (k1.ws.getD (k1.live-1) 0).toNat _ _;rw[hv2];rfl
end
end Vw
end Go.Proofs.YtofckcabpchcmaaGreatDoor
