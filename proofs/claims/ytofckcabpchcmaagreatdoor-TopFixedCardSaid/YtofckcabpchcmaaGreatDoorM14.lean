/- The parser, walked: so many expressions in brackets. -/
import Derived.Test.YtofckcabpchcmaaGreatDoorM13
import Derived.Recover
set_option linter.unusedVariables false
set_option linter.unusedSimpArgs false
set_option linter.unusedSectionVars false
set_option maxRecDepth 100000
namespace Go.Proofs.YtofckcabpchcmaaGreatDoor
namespace Vw
open Go.RowKit Img
attribute [local irreducible] aE aB End aA Still aM aP RunT Fn aO
section
attribute [local irreducible] Fr.is Fr.expr
variable{pb:Nat}{en:Int}
theorem aBQ(one:Fr.Rd Fr.Ex)(n:Nat)(first:Bool)(l:List Fr.Tok):Fr.wP one n first l=match n with
  |0=>some ([],l)
  |n+1=>(if first then some l else Fr.is Fr.w9 l).bind fun l=>(one l).bind fun(x,r)=>(Fr.wP one n false r).map fun(xs,r)=>(x::xs,r):=by
 cases n<;>rfl
theorem LW(f:Nat)(hE:sF pb en f)(s:PS)(hs:s.deep=200-(f:Int))(kd:Int)(n:Nat)(hn:n≤2):Pf pb en 206 [ptr pb, .int .i64 kd, .int .i64 (n:Int)] [bN] s (Fr.fixed (Fr.expr f) kd n s.l) EL.ex BB (fun x=>[aR x.mem]):=by
 refine PE [ptr pb, .int .i64 kd, .int .i64 (n:Int)] Tryz.func206 Tryz.ntmps206 fun w S=>?_;refine Jn ?_
 obtain⟨ρ,hρ⟩:∃ρ,ρ=Fr.fixed (Fr.expr f) kd n s.l:=⟨_,rfl⟩;rw[←hρ];unfold Fr.fixed at hρ
 repeat(refine Fy ?_;try intro b)
 rename_i rb xb
 refine PN (lW s b Fr.o1) ?_ ?_;(intro hq e y;refine PO ?_;refine PX (e,y) ?_;simp only[hρ,hq,cE,cC]);intro y hi dy ly;simp only[hi,aU,a8,id]at hρ;refine Jn ?_
 repeat(refine Fy ?_)
 apply aB.imp (fun w hm=>(hm.bY 257 dU).eX);refine aB.only ((fun z:oF×PS=>aI w S::bN::aD rb [.int .i64 0, .int .i64 0,sv [], .slice none 0 0] 257::aD xb [.int .i64 kd, .int .i64 0,sv [], .slice z.1.o z.1.l.length z.1.c] 257::(z.1.ml ++cK pb en z.2)) (⟨none,0,[]⟩,y)) (aK) ?_;apply aB.loop (σ:=oF×PS) (fun z=>z.1.l.length≤n∧z.2.deep=s.deep∧z.2.l.length≤s.l.length∧ρ=(Fr.wP (Fr.expr f) (n-z.1.l.length) z.1.l.isEmpty z.2.l).bind fun x=>(Fr.is Fr.pY x.2).map fun r=>(.mk kd 0 [] (z.1.l.map EL.ex ++x.1),r)) (fun z=>[(0,ptr pb),(6,ptr rb),(7,ptr xb),(14, .int .i64 (n:Int)),(15, .int .i64 (z.1.l.length:Int))]) (fun z:oF×PS=>aI w S::bN::aD rb [.int .i64 0, .int .i64 0,sv [], .slice none 0 0] 257::aD xb [.int .i64 kd, .int .i64 0,sv [], .slice z.1.o z.1.l.length z.1.c] 257::(z.1.ml ++cK pb en z.2)) (fun z=>n-z.1.l.length) (⟨none,0,[]⟩,y)
 rotate_left
 exact sb;exact aK;intro z hz K hK;(refine Jn ?_)
 rotate_left
 ·refine⟨bP _,dy,Nat.le_of_lt ly,?_⟩;rw[hρ];simp
 clear hρ hi dy ly;clear y;obtain⟨x,y⟩:=z;obtain⟨hx,dy,ly,hρ⟩:=hz;dsimp only at hx dy ly hρ⊢;rw[aBQ]at hρ
 by_cases hlt:x.l.length<n
 ·obtain⟨m,hm⟩:∃m,n-x.l.length=m+1:=⟨n-x.l.length-1,by omega⟩;rw[hm]at hρ
  repeat(refine Fy ?_)
  refine A9 (σ:=PS) (fun u=>u.deep=s.deep∧u.l.length≤s.l.length∧ρ=((Fr.expr f u.l).bind fun x=>(Fr.wP (Fr.expr f) m false x.2).map fun z=>(x.1::z.1,z.2)).bind fun z=>(Fr.is Fr.pY z.2).map fun r=>(.mk kd 0 [] (x.l.map EL.ex ++z.1),r)) (fun u=>[(0,ptr pb),(6,ptr rb),(7,ptr xb),(14, .int .i64 (n:Int)),(15, .int .i64 (x.l.length:Int))]) (fun u=>aI w S::bN::aD rb [.int .i64 0, .int .i64 0,sv [], .slice none 0 0] 257::aD xb [.int .i64 kd, .int .i64 0,sv [], .slice x.o x.l.length x.c] 257::(x.ml ++cK pb en u)) ?_ ?_
  ·intro u ⟨du,lu,hρ⟩
   repeat(refine Fy ?_)
   apply aB.draw 7 ([aD xb [.int .i64 kd, .int .i64 0,sv [], .slice x.o x.l.length x.c] 257]) (by kernel_rfl) 8 rfl;refine RunT.a7 0 (hQ:=bA) (h:=?_);refine RunT.a7 1 (hQ:=bA) (h:=?_);refine RunT.a7 2 (hQ:=bA) (h:=?_);(refine JT 3 ?_;refine aA.pf (hE u (by omega)) ?_ ?_;(intro hq e y;refine PO ?_;refine PX (e,y) ?_;simp only[hρ,hq,cE,cC]);intro g v hi dv lv;simp only[hi,aU,a8,id]at hρ;refine JG ?_;refine Jn ?_);(refine JT 4 ?_;(refine Jb ?_;intro b);refine JG ?_);(refine JT 5 ?_;refine aA.jL (a:=g) (k:=?_);intro ao cap;refine JG ?_;(refine Jn ?_));refine RunT.a7 6 (hQ:=bA) (h:=?_);(refine JT 7 ?_;(refine Jw ?_);refine JG ?_);(apply RunT.done;kernel_rfl)
   repeat(refine Fy ?_)
   rw[show x.l.length+1=(x.l ++[g]).length by simp,show(x.l.length:Int)+1=((x.l ++[g]).length:Int) by simp];apply End.imp (fun w hm=>Mem.x7 (cs:=EL.cU x.l) (ds:=g.mem) hm tk tk);rw[←K8];refine End.bK hK (⟨ao,cap,x.l ++[g]⟩,v) ⟨by simp;omega,by dsimp only;omega,by dsimp only;omega,?_⟩ (by simp;omega);rw[hρ,show n-(x.l ++[g]).length=m by simp;omega,show(⟨ao,cap,x.l ++[g]⟩:oF).l.isEmpty=false by simp];simp[vX]
   cases Fr.wP (Fr.expr f) m false v.l<;>rfl
  intro K' hK'
  by_cases h0:0<x.l.length
  ·rw[show x.l.isEmpty=false by cases hx:x.l<;>simp_all]at hρ;simp only[xS,if_false]at hρ
   repeat(refine Fy ?_;try intro b)
   refine PN (lW y b Fr.w9) ?_ ?_;(intro hq e y;refine PO ?_;refine PX (e,y) ?_;simp only[hρ,hq,cE,cC]);intro u hi du lu;simp only[hi,aU,a8,id]at hρ;refine Jn ?_
   repeat(refine Fy ?_)
   refine End.some_ hK' u ?_;exact⟨by omega,by omega,hρ⟩
  ·rw[show x.l.isEmpty=true by cases hx:x.l<;>simp_all]at hρ;simp only[if_true,aU]at hρ
   repeat(refine Fy ?_)
   refine End.some_ hK' y ?_;exact⟨dy,ly,hρ⟩
 ·rw[show n-x.l.length=0 by omega]at hρ;dsimp only at hρ;rw[aU]at hρ;dsimp only at hρ
  repeat(refine Fy ?_;try intro b)
  refine PN (lW y b Fr.pY) ?_ ?_;(intro hq e y;refine PO ?_;refine PX (e,y) ?_;simp only[hρ,hq,cE,cC]);intro u hi du lu;simp only[hi,aU,a8,id]at hρ;refine Jn ?_
  repeat(refine Fy ?_)
  apply End.imp (fun w hm=>Mem.yZ kd 0 [] hm (tk (c:=arr x.o x.l.length x.c 257 dU x.l)) tk);exact PC (EL.mk kd 0 [] x.o x.c x.l,u) ⟨by rw[hρ];simp[EL.ex,sW],by dsimp only;omega,by dsimp only;omega⟩ (by exact rfl)
end
section
attribute [local irreducible] Fr.is Fr.expr Fr.args Fr.fixed Fr.name Fr.number
variable{pb:Nat}{en:Int}
set_option maxHeartbeats 2000000 in
theorem aDr(f:Nat)(hE:sF pb en f)(s:PS)(hs:s.deep=200-(f:Int)):Pf pb en 195 [ptr pb] [bN] s (Fr.uY (Fr.expr f) s.l) EL.ex BB (fun x=>[aR x.mem]):=by
 refine PE [ptr pb] Tryz.func195 Tryz.ntmps195 fun w S=>?_;refine Jn ?_
 obtain⟨ρ,hρ⟩:∃ρ,ρ=Fr.uY (Fr.expr f) s.l:=⟨_,rfl⟩;rw[←hρ];unfold Fr.uY at hρ;rw[show s.l.headD default=s.l.getD 0 default by cases s.l<;>rfl]at hρ
 by_cases h0:0<s.l.length∧(s.l.getD 0 default).kind=2
 ·rw[if_pos h0]at hρ;obtain⟨h1,h2⟩:=h0
  repeat(refine Fy ?_;try intro b)
  refine PK (TR s) ?_ ?_;(intro hq e y;refine PO ?_;refine PX (e,y) ?_;simp only[hρ,hq,cE,cC]);intro g y hi dy ly;simp only[hi,aU,a8,id]at hρ;refine Jn ?_
  repeat(refine Fy ?_)
  apply End.imp (fun w hm=>Mem.yP 1 g [] hm);exact PC (EL.mk 1 g [] none 0 [],y) ⟨hρ,by(try dsimp only);omega,by(try dsimp only);omega⟩ (by exact rfl)
 rw[if_neg h0]at hρ;have h1:¬0<s.l.length∨(0<s.l.length∧¬(s.l.getD 0 default).kind=2):=by
  by_cases h1:0<s.l.length
  ·exact .inr ⟨h1,fun h2=>h0 ⟨h1,h2⟩⟩
  ·exact .inl h1
 clear h0;rcases h1 with h1|⟨h1,h2⟩
 all_goals
  repeat(refine Fy ?_;try intro b)
  refine PI (gS s Fr.X3) ?_ ?_
  ·intro y hi dy ly;simp only[hi,aU,a8,id]at hρ;refine Jn ?_
   repeat(refine Fy ?_)
   apply End.imp (fun w hm=>Mem.yP 2 1 [] hm);exact PC (EL.mk 2 1 [] none 0 [],y) ⟨hρ,by(try dsimp only);omega,by(try dsimp only);omega⟩ (by exact rfl)
  intro hi;simp only[hi,aU,a8,id]at hρ;refine Jn ?_
  repeat(refine Fy ?_)
  refine PI (gS s Fr.XO) ?_ ?_
  ·intro y hi dy ly;simp only[hi,aU,a8,id]at hρ;refine Jn ?_
   repeat(refine Fy ?_)
   apply End.imp (fun w hm=>Mem.yP 2 0 [] hm);exact PC (EL.mk 2 0 [] none 0 [],y) ⟨hρ,by(try dsimp only);omega,by(try dsimp only);omega⟩ (by exact rfl)
  intro hi;simp only[hi,aU,a8,id]at hρ;refine Jn ?_
  repeat(refine Fy ?_)
  refine PI (gS s Fr.o1) ?_ ?_
  ·intro y hi dy ly;simp only[hi,aU,a8,id]at hρ;refine Jn ?_
   repeat(refine Fy ?_)
   refine PK (hE y (by omega)) ?_ ?_;(intro hq e y;refine PO ?_;refine PX (e,y) ?_;simp only[hρ,hq,cE,cC]);intro g u hi du lu;simp only[hi,aU,a8,id]at hρ;refine Jn ?_
   repeat(refine Fy ?_;try intro b)
   refine PN (lW u b Fr.pY) ?_ ?_;(intro hq e y;refine PO ?_;refine PX (e,y) ?_;simp only[hρ,hq,cE,cC]);intro v hi dv lv;simp only[hi,aU,a8,id]at hρ;refine Jn ?_
   repeat(refine Fy ?_)
   exact PC (g,v) ⟨hρ,by(try dsimp only);omega,by(try dsimp only);omega⟩ (by exact rfl)
  intro hi;simp only[hi,aU,a8,id]at hρ;refine Jn ?_
  repeat(refine Fy ?_)
  refine PI (gS s Fr.XV) ?_ ?_
  ·intro y hi dy ly;simp only[hi,aU,a8,id]at hρ;refine Jn ?_
   repeat(refine Fy ?_;try intro b)
   refine PN (lW y b Fr.o1) ?_ ?_;(intro hq e y;refine PO ?_;refine PX (e,y) ?_;simp only[hρ,hq,cE,cC]);intro u hi du lu;simp only[hi,aU,a8,id]at hρ;refine Jn ?_
   repeat(refine Fy ?_)
   refine PK (o0 u) ?_ ?_;(intro hq e y;refine PO ?_;refine PX (e,y) ?_;simp only[hρ,hq,cE,cC]);intro g v hi dv lv;simp only[hi,aU,a8,id]at hρ;refine Jn ?_
   repeat(refine Fy ?_;try intro b)
   refine PN (lW v b Fr.pY) ?_ ?_;(intro hq e y;refine PO ?_;refine PX (e,y) ?_;simp only[hρ,hq,cE,cC]);intro t hi dt lt;simp only[hi,aU,a8,id]at hρ;refine Jn ?_
   repeat(refine Fy ?_)
   apply End.imp (fun w hm=>Mem.yP 20 0 g hm);exact PC (EL.mk 20 0 g none 0 [],t) ⟨hρ,by(try dsimp only);omega,by(try dsimp only);omega⟩ (by exact rfl)
  intro hi;simp only[hi,aU,a8,id]at hρ;refine Jn ?_
  repeat(refine Fy ?_)
  refine PI (gS s Fr.X5) ?_ ?_
  ·intro y hi dy ly;simp only[hi,aU,a8,id]at hρ;refine Jn ?_
   repeat(refine Fy ?_)
   refine PK (LW f hE y (by omega) 21 1 (by decide)) ?_ ?_;(intro hq e y;refine PO ?_;refine PX (e,y) ?_;simp only[hρ,hq,cE,cC]);intro g u hi du lu;simp only[hi,aU,a8,id]at hρ;refine Jn ?_
   repeat(refine Fy ?_)
   exact PC (g,u) ⟨hρ,by(try dsimp only);omega,by(try dsimp only);omega⟩ (by exact rfl)
  intro hi;simp only[hi,aU,a8,id]at hρ;refine Jn ?_
  repeat(refine Fy ?_)
  refine PI (gS s Fr.XW) ?_ ?_
  ·intro y hi dy ly;simp only[hi,aU,a8,id]at hρ;refine Jn ?_
   repeat(refine Fy ?_)
   refine PK (LW f hE y (by omega) 23 2 (by decide)) ?_ ?_;(intro hq e y;refine PO ?_;refine PX (e,y) ?_;simp only[hρ,hq,cE,cC]);intro g u hi du lu;simp only[hi,aU,a8,id]at hρ;refine Jn ?_
   repeat(refine Fy ?_)
   exact PC (g,u) ⟨hρ,by(try dsimp only);omega,by(try dsimp only);omega⟩ (by exact rfl)
  intro hi;simp only[hi,aU,a8,id]at hρ;refine Jn ?_
  repeat(refine Fy ?_)
  refine PI (gS s Fr.XJ) ?_ ?_
  ·intro y hi dy ly;simp only[hi,aU,a8,id]at hρ;refine Jn ?_
   repeat(refine Fy ?_)
   refine PK (LW f hE y (by omega) 24 1 (by decide)) ?_ ?_;(intro hq e y;refine PO ?_;refine PX (e,y) ?_;simp only[hρ,hq,cE,cC]);intro g u hi du lu;simp only[hi,aU,a8,id]at hρ;refine Jn ?_
   repeat(refine Fy ?_)
   exact PC (g,u) ⟨hρ,by(try dsimp only);omega,by(try dsimp only);omega⟩ (by exact rfl)
  intro hi;simp only[hi,aU,a8,id]at hρ;refine Jn ?_
  repeat(refine Fy ?_)
  refine PI (gS s Fr.XZ) ?_ ?_
  ·intro y hi dy ly;simp only[hi,aU,a8,id]at hρ;refine Jn ?_
   repeat(refine Fy ?_)
   refine PK (o0 y) ?_ ?_;(intro hq e y;refine PO ?_;refine PX (e,y) ?_;simp only[hρ,hq,cE,cC]);intro g u hi du lu;simp only[hi,aU,a8,id]at hρ;refine Jn ?_
   repeat(refine Fy ?_)
   refine PK (TN f hE u (by omega)) ?_ ?_;(intro hq e y;refine PO ?_;refine PX (e,y) ?_;simp only[hρ,hq,cE,cC]);intro x v hi dv lv;simp only[hi,aU,a8,id]at hρ;refine Jn ?_
   repeat(refine Fy ?_)
   apply End.imp (fun w hm=>Mem.yZ 22 0 g hm (tk (c:=arr x.o x.l.length x.c 257 dU x.l)) tk);exact PC (EL.mk 22 0 g x.o x.c x.l,v) ⟨by rw[hρ,EL.ex,sW],by(try dsimp only);omega,by(try dsimp only);omega⟩ (by exact rfl)
  intro hi;simp only[hi,aU,a8,id]at hρ;refine Jn ?_
  repeat(refine Fy ?_)
  refine PK (o0 s) ?_ ?_;(intro hq e y;refine PO ?_;refine PX (e,y) ?_;simp only[hρ,hq,cE,cC]);intro g u hi du lu;simp only[hi,aU,a8,id]at hρ;refine Jn ?_
  repeat(refine Fy ?_)
  refine FQ (TU u Fr.o1) ?_;intro z hz;refine Jn ?_
  cases ho:Fr.is Fr.o1 u.l with
  |none=>
   simp only[ho]at hρ
   repeat(refine Fy ?_)
   apply End.imp (fun w hm=>Mem.yP 3 0 g hm);exact PC (EL.mk 3 0 g none 0 [],u) ⟨hρ,by(try dsimp only);omega,by(try dsimp only);omega⟩ (by exact rfl)
  |some r=>
   simp only[ho]at hρ
   repeat(refine Fy ?_)
   refine PK (TN f hE u (by omega)) ?_ ?_;(intro hq e y;refine PO ?_;refine PX (e,y) ?_;simp only[hρ,hq,cE,cC]);intro x v hi dv lv;simp only[hi,aU,a8,id]at hρ;refine Jn ?_
   repeat(refine Fy ?_)
   apply End.imp (fun w hm=>Mem.yZ 19 0 g hm (tk (c:=arr x.o x.l.length x.c 257 dU x.l)) tk);exact PC (EL.mk 19 0 g x.o x.c x.l,v) ⟨by rw[hρ,EL.ex,sW],by(try dsimp only);omega,by(try dsimp only);omega⟩ (by exact rfl)
end
section
attribute [local irreducible] Fr.is Fr.expr Fr.uY
variable{pb:Nat}{en:Int}
abbrev DG(pb:Nat)(en:Int)(f:Nat):Prop:=∀s:PS,s.deep=200-(f:Int)→Pf pb en 185 [ptr pb] [bN] s ((Fr.exprs f).2 s.l) EL.ex BB (fun x=>[aR x.mem])
def EA:Nat→Fr.Rd Fr.Ex
 |0=>fun _=>none
 |f+1=>(Fr.exprs f).2
theorem aHF(f:Nat):(Fr.exprs f).2=Fr.unary (EA f) (Fr.uY (Fr.expr f)):=by cases f<;>(unfold Fr.expr;rfl)
theorem aBw{u v:aF}{l r:List Fr.Tok}(h:Fr.is u l=some r)(hn:u≠v):Fr.is v l=none:=by
 by_cases h0:0<l.length
 ·rw[EE h0]at h⊢
  split at h
  ·rename_i hu
   rw[if_neg (by rw[hu];exact hn)]
  ·cases h
 ·exact ED h0
def u7:List (aF×Int):=[(Fr.B7,4),(Fr.CU,5)]
set_option maxHeartbeats 1000000 in
theorem TV(f:Nat)(hf:f≤200)(hE:sF pb en f)(hU:∀f',f=f'+1→DG pb en f'):DG pb en f:=fun s hs=>by
 refine PE [ptr pb] Tryz.func185 Tryz.ntmps185 fun w S=>?_;refine Jn ?_
 obtain⟨ρ,hρ⟩:∃ρ,ρ=(Fr.exprs f).2 s.l:=⟨_,rfl⟩;rw[←hρ];rw[aHF]at hρ;unfold Fr.unary at hρ
 repeat(refine Fy ?_;try intro b)
 apply aE.op (by exact rfl);refine aA.oV (κ:=aF) (fun v:Int=> .int .i64 v) rfl (fun mb=>?_);apply aE.op (by exact rfl);refine aA.insert (key:=Fr.B7) (a:=(4:Int)) rfl rfl rfl rfl rfl tk ⟨rfl,rfl⟩ rfl ?_;apply aE.op (by exact rfl);refine aA.insert (key:=Fr.CU) (a:=(5:Int)) rfl rfl rfl rfl rfl tk ⟨rfl,rfl⟩ rfl ?_
 repeat(refine Fy ?_)
 refine aE.yX (l:=u7) tk (fun bs ck=>?_);apply aE.op (by exact rfl);refine aA.range rfl rfl .head rfl (fun ib=>?_)
 repeat(refine Fy ?_)
 obtain⟨rb,rfl⟩:∃x,x=b:=⟨_,rfl⟩;refine aB.only ((fun vis=>aI w S::bN::nU ib mb bs ck vis::mpr mb (fun v:Int=> .int .i64 v) u7 bs ck::aD rb [.int .i64 0, .int .i64 0,sv [], .slice none 0 0] 257::cK pb en s) []) (aK) ?_;apply aB.loop (σ:=List Nat) (fun vis=>vis.Nodup∧∀j∈vis,j<2∧Fr.is (u7.getD j default).1 s.l=none) (fun vis=>[(0,ptr pb),(2,ptr rb),(7,ptr ib)]) (fun vis=>aI w S::bN::nU ib mb bs ck vis::mpr mb (fun v:Int=> .int .i64 v) u7 bs ck::aD rb [.int .i64 0, .int .i64 0,sv [], .slice none 0 0] 257::cK pb en s) (fun vis=>(if 0∈vis then 0 else 1)+(if 1∈vis then 0 else 1)) []
 rotate_left
 exact sb;exact aK;intro vis hv K hK;(refine Jn ?_)
 rotate_left
 ·exact⟨List.nodup_nil,fun j hj=>by cases hj⟩
 obtain⟨hnd,hv⟩:=hv
 repeat(refine Fy ?_)
 apply aE.op (by exact rfl);refine aA.next (l:=u7) rfl tk tk (fun j hj=>(hv j hj).1) rfl (fun hall=>?_) (fun i p hp hni=>?_)
 ·have h1:Fr.is Fr.B7 s.l=none:=(hv 0 (hall 0 (by decide))).2;have h2:Fr.is Fr.CU s.l=none:=(hv 1 (hall 1 (by decide))).2;simp only[h1,h2]at hρ
  repeat(refine Fy ?_)
  refine PK (aDr f hE s hs) ?_ ?_;(intro hq e y;refine PO ?_;refine PX (e,y) ?_;simp only[hρ,hq,cE,cC]);intro g y hi dy ly;simp only[hi,aU,a8,id]at hρ;refine Jn ?_
  repeat(refine Fy ?_)
  exact PC (g,y) ⟨hρ,by(try dsimp only);omega,by(try dsimp only);omega⟩ (by exact rfl)
 ·have hi2:i<2:=by
   by_cases h:i<2
   ·exact h
   ·rw[tV (by show 2≤i;omega)]at hp;cases hp
  have hp':p=u7.getD i default:=by rw[Jd,hp];rfl
  repeat(refine Fy ?_)
  apply aE.op (by exact rfl);refine aA.b8 (h:=Still.entry rfl tk tk hp) (k:=?_)
  repeat(refine Fy ?_)
  refine PI (gS s p.1) ?_ ?_
  ·intro y hi dy ly;refine Jn ?_;have hρ':ρ=(EA f y.l).map fun x=>(.mk p.2 0 [] [x.1],x.2):=by
    have h2:i=0∨i=1:=by omega
    rw[hp']at hi⊢;rcases h2 with rfl|rfl
    ·rw[show(u7.getD 0 default).1=Fr.B7 from rfl]at hi;rw[hρ,hi];rfl
    ·rw[show(u7.getD 1 default).1=Fr.CU from rfl]at hi;rw[hρ,hi,aBw hi (by decide)];rfl
   clear hρ
   repeat(refine Fy ?_)
   refine PQ (LX y (by omega) (by omega)) ?_ ?_
   ·intro q hq;refine PO ?_;refine PX q ?_;obtain rfl:f=0:=by omega
    exact hρ'
   intro xb hlt;obtain⟨f',rfl⟩:∃f',f=f'+1:=⟨f-1,by omega⟩;refine Jn ?_
   repeat(refine Fy ?_)
   refine PD ?_
   repeat(refine Fy ?_)
   refine PK (hU f' rfl (y.to (y.deep+1)) (by dsimp only;omega)) ?_ ?_
   ·intro hq e v;refine PO ?_;refine A0 e v ?_;rw[hρ',EA,show y.l=(y.to (y.deep+1)).l from rfl,hq];rfl
   intro g v hi dv lv;refine Jn ?_
   repeat(refine Fy ?_;try intro b)
   dsimp only at dv lv hi;apply End.imp (fun w hm=>Mem.aBy (g:=g) p.2 0 [] hm (tk (c:=aD b (dU g) 257)) tk rfl);refine OC (EL.mk p.2 0 [] (some ⟨b,0,none⟩) 1 [g],v.up) v ⟨by rw[hρ',EA,hi];rfl,?_,by dsimp only;omega⟩ (by exact rfl);dsimp only;rw[dv,dA (by omega)];omega
  ·intro hi;refine Jn ?_
   repeat(refine Fy ?_)
   refine End.bK hK (vis ++[i]) ⟨?_,?_⟩ ?_
   ·rw[rH];exact⟨hnd,by simp,fun a ha b hb h=>hni (by simp at hb;rw[←hb,←h];exact ha)⟩
   ·intro j hj;rcases dH.1 hj with hj|hj
    ·exact hv j hj
    ·obtain rfl:j=i:=by simpa using hj
     exact⟨hi2,by rw[←hp'];exact hi⟩
   ·have h2:i=0∨i=1:=by omega
    rcases h2 with rfl|rfl<;>simp[hni]<;>split<;>omega
end
section
attribute [local irreducible] Fr.is Fr.expr Fr.uY
variable{pb:Nat}{en:Int}
abbrev BT(bs:List Nat):List Chunk:=[mp (bs.getD 0 0) (fun v:Int=> .int .i64 v) (Fr.ops 0).1,mp (bs.getD 1 0) (fun v:Int=> .int .i64 v) (Fr.ops 1).1,mp (bs.getD 2 0) (fun v:Int=> .int .i64 v) (Fr.ops 2).1,mp (bs.getD 3 0) (fun v:Int=> .int .i64 v) (Fr.ops 3).1,mp (bs.getD 4 0) (fun v:Int=> .int .i64 v) (Fr.ops 4).1]
def yW(x:Nat×Bool):List Value:=[.map (some x.1), .bool x.2]
instance:bF yW:=⟨fun _=>rfl,by decide,fun a u hu=>by simp[yW]at hu;rcases hu with rfl|rfl<;>rfl⟩
abbrev wX(bs:List Nat):List (Nat×Bool):=[(bs.getD 0 0,false),(bs.getD 1 0,false),(bs.getD 2 0,true),(bs.getD 3 0,false),(bs.getD 4 0,false)]
set_option maxHeartbeats 1000000 in
theorem RW:Fn Tryz.prog 184 #[] [] [] (σ:=Nat×List Nat) (fun _=>True) (fun x=> .slice (some ⟨x.1,0,none⟩) 5 5) (fun x=>arr (some ⟨x.1,0,none⟩) 5 5 329 yW (wX x.2)::BT x.2):=by
 refine JE [] Tryz.func184 Tryz.ntmps184 fun w S=>?_;refine Jn ?_
 repeat(refine Fy ?_)
 repeat(first|(refine Fy ?_;try intro b)|(apply aE.op (by exact rfl);first|(refine aA.oV (κ:=aF) (fun v:Int=> .int .i64 v) rfl (fun b=>?_))|refine aA.insert (κ:=aF) rfl rfl (by exact rfl) rfl rfl tk ⟨rfl,rfl⟩ rfl ?_))
 rename_i b0 b1 b2 b3 b4
 apply End.imp (fun w hm=>hm.mJ (f:=yW) .head (wX [b0,b1,b2,b3,b4]) (n:=5) (by rfl) (by rfl) (by unfold maxLen;simp));exact End.aH (b,[b0,b1,b2,b3,b4]) (he:=rfl) (hx:=by simp[dX,j6]) (hp:=trivial)
theorem SB{κ α:Type} [DecidableEq κ](k:κ):∀l:List (κ×α),bC l k=(l.find? fun x=>decide (x.1=k)).map (·.2)
 |[]=>rfl
 |(q,a)::r=>by
  unfold bC;rw[xW,SB k r]
  by_cases h:q=k<;>simp[h]
section
variable{E:Env}{L F:List Chunk}{dst:Option Tmp}{ty:TypeId}{pos:String}{aft:Array Edge}{gu:Option (Nat×Bool)}{N:Nd}
theorem aC2{bs:List Nat}{n:Nat}{x y:Operand}{u:aF}(hn:n<5)(hx:ev E x=some (.map (some ((wX bs).getD n default).1)))(hy:ev E y=some (sv u))(t:aQ (BT bs) L F):
  Still Tryz.prog N ⟨dst, .lookup 149 x y false,ty,pos,aft,gu⟩ E L (.int .i64 (Fr.nY n u)):=by
 have e:((wX bs).getD n default).1=bs.getD n 0:=by
  match n,hn with
  |0,_|1,_|2,_|3,_|4,_=>rfl
 have hm:mp (bs.getD n 0) (fun v:Int=>Value.int .i64 v) (Fr.ops n).1∈BT bs:=by
  match n,hn with
  |0,_|1,_|2,_|3,_|4,_=>simp
 obtain⟨L2,h⟩:=Take.LM (t.perm.mem_iff.2 (rG _ hm));rw[e]at hx;have h2:=Still.EO (P:=Tryz.prog) (N:=N) (dst:=dst) (ty:=ty) (pos:=pos) (aft:=aft) (gu:=gu) (t:=149) (kt:=9) (et:=3) (z:= .int .i64 0) hx hy (by exact rfl) (by exact rfl) (by exact rfl) h ⟨rfl,rfl⟩;have hv:((bC (Fr.ops n).1 u).map fun v:Int=>Value.int .i64 v).getD (.int .i64 0)= .int .i64 (Fr.nY n u):=by
  unfold Fr.nY;rw[SB]
  cases(Fr.ops n).1.find? fun x=>decide (x.1=u)<;>rfl
 rw[←hv];exact h2
end
theorem aCf(bs:List Nat){n:Nat}(hn:n<5):((wX bs).getD n default).2=(Fr.ops n).2:=by
 match n,hn with
 |0,_|1,_|2,_|3,_|4,_=>rfl
abbrev xY(pb:Nat)(en:Int)(f k:Nat):Prop:=∀s:PS,s.deep=200-(f:Int)→Pf pb en 175 [ptr pb, .int .i64 (5-(k:Int))] [bN] s (Fr.levels (Fr.exprs f).2 k s.l) EL.ex BB (fun x=>[aR x.mem])
theorem aDp(f:Nat)(hU:DG pb en f):xY pb en f 0:=fun s hs=>by
 refine PE [ptr pb, .int .i64 (5-((0:Nat):Int))] Tryz.func175 Tryz.ntmps175 fun w S=>?_;refine Jn ?_
 obtain⟨ρ,hρ⟩:∃ρ,ρ=Fr.levels (Fr.exprs f).2 0 s.l:=⟨_,rfl⟩;rw[←hρ];rw[Fr.levels]at hρ
 repeat(refine Fy ?_;try intro b)
 refine FQ (RW) ?_;intro z hz;refine Jn ?_
 repeat(refine Fy ?_)
 refine PK (hU s hs) ?_ ?_;(intro hq e y;refine PO ?_;refine PX (e,y) ?_;simp only[hρ,hq,cE,cC]);intro g y hi dy ly;simp only[hi,aU,a8,id]at hρ;refine Jn ?_
 repeat(refine Fy ?_)
 exact PC (g,y) ⟨hρ,by(try dsimp only);omega,by(try dsimp only);omega⟩ (by exact rfl)
theorem aCz(n:Nat)(next:Fr.Rd Fr.Ex)(k:Nat)(x:Fr.Ex)(l:List Fr.Tok)(h:0<l.length):Fr.more n next (k+1) x l=if Fr.nY n (l.getD 0 default).text=0 then some (x,l)else(next (l.drop 1)).bind fun z=>if(Fr.ops n).2=true then some (.mk (Fr.nY n (l.getD 0 default).text) 0 [] [x,z.1],z.2)else Fr.more n next k (.mk (Fr.nY n (l.getD 0 default).text) 0 [] [x,z.1]) z.2:=by
 cases l with
 |nil=>simp at h
 |cons t r=>rfl
set_option maxHeartbeats 1000000 in
theorem aDo(f k:Nat)(hk:k<5)(hL:xY pb en f k):xY pb en f (k+1):=fun s hs=>by
 refine PE [ptr pb, .int .i64 (5-((k+1:Nat):Int))] Tryz.func175 Tryz.ntmps175 fun w S=>?_;refine Jn ?_
 obtain⟨ρ,hρ⟩:∃ρ,ρ=Fr.levels (Fr.exprs f).2 (k+1) s.l:=⟨_,rfl⟩;rw[←hρ];rw[Fr.levels]at hρ;obtain⟨n,hn⟩:∃n,n=4-k:=⟨_,rfl⟩;rw[←hn]at hρ;rw[show(5:Int)-((k+1:Nat):Int)=(n:Int) by omega];have hn5:n<5:=by omega
 unfold xY at hL;rw[show(5:Int)-(k:Int)=(n:Int)+1 by omega]at hL
 repeat(refine Fy ?_;try intro b)
 obtain⟨rb,rfl⟩:∃x,x=b:=⟨_,rfl⟩;refine FQ (RW) ?_;intro z hz;refine Jn ?_;obtain⟨lb,bs⟩:=z;dsimp only
 repeat(refine Fy ?_)
 refine PK (hL s hs) ?_ ?_;(intro hq e y;refine PO ?_;refine PX (e,y) ?_;simp only[hρ,hq,cE,cC]);intro g y hi dy ly;simp only[hi,aU,a8,id]at hρ;refine Jn ?_
 repeat(refine Fy ?_;try intro b)
 obtain⟨xb,rfl⟩:∃x,x=b:=⟨_,rfl⟩;obtain⟨next,hnx⟩:∃x,x=Fr.levels (Fr.exprs f).2 k:=⟨_,rfl⟩;rw[←hnx]at hρ hL;refine aB.only ((fun z:EL×PS=>aI w S::bN::aD rb [.int .i64 0, .int .i64 0,sv [], .slice none 0 0] 257::aD xb (dU z.1) 257::aR z.1.mem::arr (some ⟨lb,0,none⟩) 5 5 329 yW (wX bs)::(BT bs ++cK pb en z.2)) (g,y)) (aK) ?_;apply aB.loop (σ:=EL×PS) (fun z=>z.2.deep=s.deep∧z.2.l.length≤s.l.length∧∃m,z.2.l.length<m∧ρ=Fr.more n next m z.1.ex z.2.l) (fun z=>[(0,ptr pb),(1, .int .i64 (n:Int)),(4,ptr rb),(5, .slice (some ⟨lb,0,none⟩) 5 5),(6,ptr xb)]) (fun z:EL×PS=>aI w S::bN::aD rb [.int .i64 0, .int .i64 0,sv [], .slice none 0 0] 257::aD xb (dU z.1) 257::aR z.1.mem::arr (some ⟨lb,0,none⟩) 5 5 329 yW (wX bs)::(BT bs ++cK pb en z.2)) (fun z=>z.2.l.length) (g,y)
 rotate_left
 exact sb;exact aK;intro z hz K hK;(refine Jn ?_)
 rotate_left
 ·exact⟨dy,ly,_,Nat.lt_succ_self _,hρ⟩
 clear hρ dy ly hi;clear y g;obtain⟨x,y⟩:=z;obtain⟨dy,ly,m,hm,hρ⟩:=hz;dsimp only at dy ly hm hρ⊢
 by_cases h0:0<y.l.length
 ·obtain⟨m',rfl⟩:∃m',m=m'+1:=⟨m-1,by omega⟩;rw[aCz _ _ _ _ _ h0]at hρ
  repeat(refine Fy ?_)
  refine aM.b8 (h:=aC2 hn5 (by exact rfl) (by exact rfl) aK) (k:=?_)
  repeat(refine Fy ?_)
  by_cases hop:Fr.nY n (y.l.getD 0 default).text=0
  ·rw[if_pos hop]at hρ
   repeat(refine Fy ?_)
   exact PC (x,y) ⟨hρ,by(try dsimp only);omega,by(try dsimp only);omega⟩ (by exact rfl)
  rw[if_neg hop]at hρ
  repeat(refine Fy ?_;try intro ao cap)
  rw[show y.l.length-(0+1)=(y.l.drop (0+1)).length by rw[fC]];have hdl:(y.l.drop (0+1)).length=y.l.length-1:=by rw[fC]
  apply aB.draw 8 ([aD xb (dU x) 257]) (by kernel_rfl) 9 rfl;refine RunT.a7 0 (hQ:=bA) (h:=?_);refine RunT.a7 1 (hQ:=bA) (h:=?_);refine RunT.a7 2 (hQ:=bA) (h:=?_);refine RunT.a7 3 (hQ:=bA) (h:=?_);refine RunT.a7 4 (hQ:=bA) (h:=?_);(refine JT 5 ?_;refine aA.pf (hL ⟨ao,cap,y.l.drop (0+1),y.deep⟩ (by dsimp only;omega)) ?_ ?_;(intro hq e y;refine PO ?_;refine PX (e,y) ?_;simp only[hρ,hq,cE,cC]);intro g u hi du lu;simp only[hi,aU,a8,id]at hρ;refine JG ?_;refine Jn ?_);dsimp only at du lu;(refine JT 6 ?_;(refine Jb ?_;intro b);refine JG ?_);refine RunT.a7 7 (hQ:=bA) (h:=?_);(refine JT 8 ?_;(refine Jw ?_);refine JG ?_);(apply RunT.done;kernel_rfl);obtain⟨v,hv⟩:∃v,v=EL.mk (Fr.nY n (y.l.getD 0 default).text) 0 [] (some ⟨b,0,none⟩) 2 [x,g]:=⟨_,rfl⟩;have hvx:v.ex= .mk (Fr.nY n (y.l.getD 0 default).text) 0 [] [x.ex,g.ex]:=by rw[hv];rfl
  rw[←hvx]at hρ;have hO:=aCf bs hn5;apply End.imp (fun w hm=>by
   have h:=Mem.aBz (g:=x) (x:=g) (Fr.nY n (y.l.getD 0 default).text) 0 [] hm (tk (c:=aD b (dU x ++dU g) 257)) tk tk rfl;rw[←hv]at h;exact h)
  cases ho:(Fr.ops n).2 with
  |true=>
   rw[ho]at hρ hO;rw[if_pos rfl]at hρ
   repeat(refine Fy ?_)
   refine PC (v,u) ⟨hρ,by dsimp only;omega,by dsimp only;omega⟩ (by rw[hv])
  |false=>
   rw[ho]at hρ hO;rw[if_neg (by decide)]at hρ
   repeat(refine Fy ?_)
   subst hv;refine End.bK hK (EL.mk (Fr.nY n (y.l.getD 0 default).text) 0 [] (some ⟨b,0,none⟩) 2 [x,g],u) ⟨by dsimp only;omega,by dsimp only;omega,m',by dsimp only;omega,hρ⟩ (by dsimp only;omega)
 ·repeat(refine Fy ?_)
  refine PC (x,y) ⟨?_,dy,ly⟩ (by exact rfl);rw[hρ,pE (by omega:y.l.length=0)]
  cases m<;>rfl
theorem TP(f:Nat)(hf:f≤200)(hL:∀f',f=f'+1→xY pb en f' 5):sF pb en f:=fun s hs=>by
 refine PE [ptr pb] Tryz.func158 Tryz.ntmps158 fun w S=>?_;refine Jn ?_
 repeat(refine Fy ?_;try intro b)
 refine PQ (LX s (by omega) (by omega)) ?_ ?_
 ·intro q hq;refine PO ?_;refine PX q ?_;obtain rfl:f=0:=by omega
  unfold Fr.expr;rfl
 intro xb hlt;obtain⟨f',rfl⟩:∃f',f=f'+1:=⟨f-1,by omega⟩;refine Jn ?_
 repeat(refine Fy ?_)
 refine PD ?_
 repeat(refine Fy ?_)
 have e:Fr.levels (Fr.exprs f').2 5 s.l=Fr.expr (f'+1) s.l:=by unfold Fr.expr;rfl
 have hL':=hL f' rfl (s.to (s.deep+1)) (by dsimp only;omega);refine PK (hL') ?_ ?_
 ·intro hq e' v;refine PO ?_;refine A0 e' v ?_;rw[←e];exact hq
 intro g v hi dv lv;refine Jn ?_
 repeat(refine Fy ?_)
 dsimp only at dv lv hi;refine OC (g,v.up) v ⟨by rw[←e];exact hi,?_,lv⟩ (by exact rfl);dsimp only;rw[dv,dA (by omega)];omega
theorem QH:∀f,f≤200→sF pb en f∧DG pb en f
 |0,_=>by
  have hE:sF pb en 0:=TP 0 (by omega) (fun f' h=>by omega);exact⟨hE,TV 0 (by omega) hE (fun f' h=>by omega)⟩
 |f+1,h=>by
  have hU:=(QH f (by omega)).2;have hL:∀k,k≤5→xY pb en f k:=fun k=>by
   induction k with
   |zero=>exact fun _=>aDp f hU
   |succ k ih=>exact fun hk=>aDo f k (by omega) (ih (by omega))
  have hE:sF pb en (f+1):=TP (f+1) h (fun f' hf=>by obtain rfl:f=f':=(by omega);exact hL 5 (cG _));exact⟨hE,TV (f+1) h hE (fun f' hf=>by obtain rfl:f=f':=(by omega);exact hU)⟩
end
section
attribute [local irreducible] Fr.is Fr.expr Fr.name Fr.body Fr.rY
variable{pb:Nat}{en:Int}
structure wE where
 o:Option Addr
 c:Nat
 l:List aJ
abbrev wE.ml(x:wE):List Chunk:=[arr x.o x.l.length x.c 259 fJ x.l,aR (aJ.cU x.l)]
abbrev stV(x:aJ):Value:= .agg (fJ x).toArray
abbrev AM(pb:Nat)(en:Int)(f:Nat):Prop:=∀s:PS,s.deep=200-(f:Int)→Pf pb en 95 [ptr pb] [bN] s (Fr.body f s.l) (fun x:wE=>aJ.bR x.l) (fun x=> .slice x.o x.l.length x.c) wE.ml
set_option maxHeartbeats 4000000 in
theorem aDs(f:Nat)(hf:f≤200)(hB:AM pb en f)(s:PS)(hs:s.deep=200-(f:Int)):Pf pb en 132 [ptr pb] [bN] s (Fr.stat (Fr.expr f) (Fr.body f) s.l) aJ.st stV (fun x=>[aR x.mem]):=by
 have hE:sF pb en f:=(QH f hf).1;refine PE [ptr pb] Tryz.func132 Tryz.ntmps132 fun w S=>?_;refine Jn ?_
 obtain⟨ρ,hρ⟩:∃ρ,ρ=Fr.stat (Fr.expr f) (Fr.body f) s.l:=⟨_,rfl⟩;rw[←hρ];unfold Fr.stat at hρ
 repeat(refine Fy ?_;try intro b)
 rename_i rb
 obtain⟨xb,rfl⟩:∃x,x=b:=⟨_,rfl⟩;refine aAW (σ:=(Int×aF×EL)×PS) (fun z=>ρ=Fr.rY z.1.1 z.1.2.1 z.1.2.2.ex z.2.l∧z.2.deep=s.deep∧z.2.l.length≤s.l.length) (fun z=>[(0,ptr pb),(2,ptr rb),(3,ptr xb)]) (fun z=>aI w S::bN::aD rb (fJ default) 259::aD xb (fJ (.mk z.1.1 z.1.2.1 z.1.2.2 none 0 [] none 0 [])) 259::aR z.1.2.2.mem::cK pb en z.2) ?_ ?_
 ·intro z hz;obtain⟨⟨k,u,x⟩,y⟩:=z;obtain⟨hρ,dy,ly⟩:=hz;dsimp only at hρ dy ly⊢;unfold Fr.rY at hρ
  repeat(refine Fy ?_;try intro b)
  refine PN (lW y b Fr.FG) ?_ ?_;(intro hq e y;refine PO ?_;refine PX (e,y) ?_;simp only[hρ,hq,cE,cC]);intro v hi dv lv;simp only[hi,aU,a8,id]at hρ;refine Jn ?_
  repeat(refine Fy ?_)
  apply End.imp (fun w hm=>Mem.aCH (x:=x) k u hm tk);exact PC (aJ.mk k u x none 0 [] none 0 [],v) ⟨hρ,by dsimp only;omega,by dsimp only;omega⟩ (by exact rfl)
 intro K' hK';refine PI (gS s Fr.XR) ?_ ?_
 ·intro y hi dy ly;simp only[hi,aU,a8,id]at hρ;refine Jn ?_
  repeat(refine Fy ?_)
  refine PK (hE y (by omega)) ?_ ?_;(intro hq e y;refine PO ?_;refine PX (e,y) ?_;simp only[hρ,hq,cE,cC]);intro x u hi du lu;simp only[hi,aU,a8,id]at hρ;refine Jn ?_
  repeat(refine Fy ?_)
  refine PK (hB u (by omega)) ?_ ?_;(intro hq e y;refine PO ?_;refine PX (e,y) ?_;simp only[hρ,hq,cE,cC]);intro g v hi dv lv;simp only[hi,aU,a8,id]at hρ;refine Jn ?_
  repeat(refine Fy ?_)
  refine PI (gS v Fr.XN) ?_ ?_
  ·intro t hi dt lt;simp only[hi,aU,a8,id]at hρ;refine Jn ?_
   repeat(refine Fy ?_)
   refine PK (hB t (by omega)) ?_ ?_;(intro hq e y;refine PO ?_;refine PX (e,y) ?_;simp only[hρ,hq,cE,cC]);intro e r hi dr lr;simp only[hi,aU,a8,id]at hρ;refine Jn ?_
   repeat(refine Fy ?_)
   apply End.imp (fun w hm=>Mem.E3 (x:=x) (b:=g.l) (e:=e.l) 3 [] hm tk tk tk tk tk);exact PC (aJ.mk 3 [] x g.o g.c g.l e.o e.c e.l,r) ⟨hρ,by dsimp only;omega,by dsimp only;omega⟩ (by exact rfl)
  intro hi;simp only[hi,aU,a8,id]at hρ;refine Jn ?_
  repeat(refine Fy ?_)
  apply End.imp (fun w hm=>Mem.E3 (x:=x) (b:=g.l) (e:=[]) 3 [] (hm.eX.bY 259 fJ) tk tk tk tk tk);exact PC (aJ.mk 3 [] x g.o g.c g.l none 0 [],v) ⟨hρ,by dsimp only;omega,by dsimp only;omega⟩ (by exact rfl)
 intro hi;simp only[hi,aU,a8,id]at hρ;refine Jn ?_
 repeat(refine Fy ?_)
 refine PI (gS s Fr.X4) ?_ ?_
 ·intro y hi dy ly;simp only[hi,aU,a8,id]at hρ;refine Jn ?_
  repeat(refine Fy ?_)
  refine PK (hE y (by omega)) ?_ ?_;(intro hq e y;refine PO ?_;refine PX (e,y) ?_;simp only[hρ,hq,cE,cC]);intro x u hi du lu;simp only[hi,aU,a8,id]at hρ;refine Jn ?_
  repeat(refine Fy ?_)
  refine PK (hB u (by omega)) ?_ ?_;(intro hq e y;refine PO ?_;refine PX (e,y) ?_;simp only[hρ,hq,cE,cC]);intro g v hi dv lv;simp only[hi,aU,a8,id]at hρ;refine Jn ?_
  repeat(refine Fy ?_)
  apply End.imp (fun w hm=>Mem.E3 (x:=x) (b:=g.l) (e:=[]) 4 [] (hm.eX.bY 259 fJ) tk tk tk tk tk);exact PC (aJ.mk 4 [] x g.o g.c g.l none 0 [],v) ⟨hρ,by dsimp only;omega,by dsimp only;omega⟩ (by exact rfl)
 intro hi;simp only[hi,aU,a8,id]at hρ;refine Jn ?_
 repeat(refine Fy ?_)
 refine PI (gS s Fr.XS) ?_ ?_
 ·intro y hi dy ly;simp only[hi,aU,a8,id]at hρ;refine Jn ?_
  repeat(refine Fy ?_)
  refine PK (o0 y) ?_ ?_;(intro hq e y;refine PO ?_;refine PX (e,y) ?_;simp only[hρ,hq,cE,cC]);intro g u hi du lu;simp only[hi,aU,a8,id]at hρ;refine Jn ?_
  repeat(refine Fy ?_;try intro b)
  refine PN (lW u b Fr.FF) ?_ ?_;(intro hq e y;refine PO ?_;refine PX (e,y) ?_;simp only[hρ,hq,cE,cC]);intro v hi dv lv;simp only[hi,aU,a8,id]at hρ;refine Jn ?_
  repeat(refine Fy ?_)
  refine PK (hE v (by omega)) ?_ ?_;(intro hq e y;refine PO ?_;refine PX (e,y) ?_;simp only[hρ,hq,cE,cC]);intro x t hi dt lt;simp only[hi,aU,a8,id]at hρ;refine Jn ?_
  repeat(refine Fy ?_)
  refine End.some_ hK' ((1,g,x),t) ?_;exact⟨hρ,by dsimp only;omega,by dsimp only;omega⟩
 intro hi;simp only[hi,aU,a8,id]at hρ;refine Jn ?_
 repeat(refine Fy ?_)
 refine PI (gS s Fr.XX) ?_ ?_
 ·intro y hi dy ly;simp only[hi,aU,a8,id]at hρ;refine Jn ?_
  repeat(refine Fy ?_)
  refine PK (hE y (by omega)) ?_ ?_;(intro hq e y;refine PO ?_;refine PX (e,y) ?_;simp only[hρ,hq,cE,cC]);intro x t hi dt lt;simp only[hi,aU,a8,id]at hρ;refine Jn ?_
  repeat(refine Fy ?_)
  refine End.some_ hK' ((5,[],x),t) ?_;exact⟨hρ,by dsimp only;omega,by dsimp only;omega⟩
 intro hi;simp only[hi,aU,a8,id]at hρ;refine Jn ?_
 repeat(refine Fy ?_)
 refine PI (gS s Fr.X0) ?_ ?_
 ·intro y hi dy ly;simp only[hi,aU,a8,id]at hρ;refine Jn ?_
  repeat(refine Fy ?_)
  apply End.imp (fun w hm=>Mem.yP 0 0 [] hm);refine End.some_ hK' ((6,[],EL.mk 0 0 [] none 0 []),y) ?_;exact⟨hρ,by dsimp only;omega,by dsimp only;omega⟩
 intro hi;simp only[hi,aU,a8,id]at hρ;refine Jn ?_
 repeat(refine Fy ?_)
 refine PI (gS s Fr.XY) ?_ ?_
 ·intro y hi dy ly;simp only[hi,aU,a8,id]at hρ;refine Jn ?_
  repeat(refine Fy ?_)
  refine PK (o0 y) ?_ ?_;(intro hq e y;refine PO ?_;refine PX (e,y) ?_;simp only[hρ,hq,cE,cC]);intro g u hi du lu;simp only[hi,aU,a8,id]at hρ;refine Jn ?_
  repeat(refine Fy ?_)
  refine PK (hE u (by omega)) ?_ ?_;(intro hq e y;refine PO ?_;refine PX (e,y) ?_;simp only[hρ,hq,cE,cC]);intro x t hi dt lt;simp only[hi,aU,a8,id]at hρ;refine Jn ?_
  repeat(refine Fy ?_)
  refine End.some_ hK' ((7,g,x),t) ?_;exact⟨hρ,by dsimp only;omega,by dsimp only;omega⟩
 intro hi;simp only[hi,aU,a8,id]at hρ;refine Jn ?_
 repeat(refine Fy ?_)
 refine PI (gS s Fr.XU) ?_ ?_
 ·intro y hi dy ly;simp only[hi,aU,a8,id]at hρ;refine Jn ?_
  repeat(refine Fy ?_)
  refine PK (hE y (by omega)) ?_ ?_;(intro hq e y;refine PO ?_;refine PX (e,y) ?_;simp only[hρ,hq,cE,cC]);intro x t hi dt lt;simp only[hi,aU,a8,id]at hρ;refine Jn ?_
  repeat(refine Fy ?_)
  refine End.some_ hK' ((8,[],x),t) ?_;exact⟨hρ,by dsimp only;omega,by dsimp only;omega⟩
 intro hi;simp only[hi,aU,a8,id]at hρ;refine Jn ?_
 repeat(refine Fy ?_)
 refine PI (gS s Fr.XM) ?_ ?_
 ·intro y hi dy ly;simp only[hi,aU,a8,id]at hρ;refine Jn ?_
  repeat(refine Fy ?_)
  refine PK (hE y (by omega)) ?_ ?_;(intro hq e y;refine PO ?_;refine PX (e,y) ?_;simp only[hρ,hq,cE,cC]);intro x t hi dt lt;simp only[hi,aU,a8,id]at hρ;refine Jn ?_
  repeat(refine Fy ?_)
  refine End.some_ hK' ((9,[],x),t) ?_;exact⟨hρ,by dsimp only;omega,by dsimp only;omega⟩
 intro hi;simp only[hi,aU,a8,id]at hρ;refine Jn ?_
 repeat(refine Fy ?_)
 refine PK (o0 s) ?_ ?_;(intro hq e y;refine PO ?_;refine PX (e,y) ?_;simp only[hρ,hq,cE,cC]);intro g u hi du lu;simp only[hi,aU,a8,id]at hρ;refine Jn ?_
 repeat(refine Fy ?_;try intro b)
 refine PN (lW u b Fr.FF) ?_ ?_;(intro hq e y;refine PO ?_;refine PX (e,y) ?_;simp only[hρ,hq,cE,cC]);intro v hi dv lv;simp only[hi,aU,a8,id]at hρ;refine Jn ?_
 repeat(refine Fy ?_)
 refine PK (hE v (by omega)) ?_ ?_;(intro hq e y;refine PO ?_;refine PX (e,y) ?_;simp only[hρ,hq,cE,cC]);intro x t hi dt lt;simp only[hi,aU,a8,id]at hρ;refine Jn ?_
 repeat(refine Fy ?_)
 refine End.some_ hK' ((2,g,x),t) ?_;exact⟨hρ,by dsimp only;omega,by dsimp only;omega⟩
end
section
attribute [local irreducible] Fr.is Fr.expr Fr.name Fr.stat Fr.gK
variable{pb:Nat}{en:Int}
theorem aFz(one:Fr.Rd Fr.St)(n:Nat)(l:List Fr.Tok):Fr.stats one n l=match Fr.is Fr.LY l with
  |some r=>some ([],r)
  |none=>match n with
   |0=>none
   |n+1=>(one l).bind fun(x,r)=>(Fr.stats one n r).map fun(xs,r)=>(x::xs,r):=by
 rw[Fr.stats.eq_def];try rfl
set_option maxHeartbeats 1000000 in
theorem TO(f:Nat)(hf:f≤200)(hB:∀f',f=f'+1→AM pb en f'):AM pb en f:=fun s hs=>by
 refine PE [ptr pb] Tryz.func95 Tryz.ntmps95 fun w S=>?_;refine Jn ?_
 obtain⟨ρ,hρ⟩:∃ρ,ρ=Fr.body f s.l:=⟨_,rfl⟩;rw[←hρ]
 repeat(refine Fy ?_)
 refine PQ (LX s (by omega) (by omega)) ?_ ?_
 ·intro q hq;refine PO ?_;refine PX q ?_;obtain rfl:f=0:=by omega
  rw[hρ];rfl
 intro xb hlt;obtain⟨f',rfl⟩:∃f',f=f'+1:=⟨f-1,by omega⟩;refine Jn ?_;rw[Fr.body]at hρ
 repeat(refine Fy ?_)
 refine PD ?_
 repeat(refine Fy ?_;try intro b)
 rw[show s.l=(s.to (s.deep+1)).l from rfl]at hρ;dsimp only at hρ;refine PN (lW (s.to (s.deep+1)) b Fr.TQ) ?_ ?_;(intro hq e y;refine PO ?_;refine A0 e y ?_;simp only[hρ,hq,cE,cC]);intro y hi dy ly;simp only[hi,aU,a8,id]at hρ;refine Jn ?_;dsimp only at dy ly
 repeat(refine Fy ?_)
 apply aB.imp (fun w hm=>(hm.bY 259 fJ).eX);refine aB.only ((fun z:wE×PS=>aI w S::bN::aD xb [ptr pb] 136::(z.1.ml ++cK pb en z.2)) (⟨none,0,[]⟩,y)) (aK) ?_;apply aB.loop (σ:=wE×PS) (fun z=>z.1.l.length≤50∧z.2.deep=s.deep+1∧z.2.l.length≤s.l.length∧ρ=(Fr.stats (Fr.stat (Fr.expr f') (Fr.body f')) (50-z.1.l.length) z.2.l).map fun x=>(aJ.bR z.1.l ++x.1,x.2)) (fun z=>[(0,ptr pb),(3, .slice z.1.o z.1.l.length z.1.c)]) (fun z:wE×PS=>aI w S::bN::aD xb [ptr pb] 136::(z.1.ml ++cK pb en z.2)) (fun z=>51-z.1.l.length) (⟨none,0,[]⟩,y)
 rotate_left
 exact sb;exact aK;intro z hz K hK;(refine Jn ?_)
 rotate_left
 ·refine⟨by simp,dy,Nat.le_of_lt ly,?_⟩;rw[hρ];simp[aJ.bR]
 clear hρ hi dy ly;clear y;obtain⟨x,y⟩:=z;obtain⟨hx,dy,ly,hρ⟩:=hz;dsimp only at hx dy ly hρ⊢;rw[aFz]at hρ
 repeat(refine Fy ?_)
 refine PI (gS y Fr.LY) ?_ ?_
 ·intro u hi du lu;simp only[hi,aU,a8,id]at hρ;refine Jn ?_
  repeat(refine Fy ?_)
  refine P1u (x,u.up) u ⟨by rw[hρ];simp,?_,by dsimp only;omega⟩ rfl;dsimp only;rw[du,dy,dA (by omega)];omega
 intro hi;simp only[hi,aU,a8,id]at hρ;refine Jn ?_
 by_cases h6:x.l.length=50
 ·rw[show 50-x.l.length=0 by omega]at hρ
  repeat(refine Fy ?_)
  refine FQ (oZ y) ?_;intro a ha;refine Jn ?_
  repeat(refine Fy ?_)
  refine PQ (nZ y (uN a)) ?_ ?_;(intro q hq;refine PO ?_;refine A0 (uN a) y ?_;exact hρ);intro z _;exact z.elim
 ·obtain⟨m,hm⟩:∃m,50-x.l.length=m+1:=⟨49-x.l.length,by omega⟩;rw[hm]at hρ;dsimp only at hρ
  repeat(refine Fy ?_)
  refine PK (aDs f' (by omega) (hB f' rfl) y (by omega)) ?_ ?_;(intro hq e y;refine PO ?_;refine A0 e y ?_;simp only[hρ,hq,cE,cC]);intro g v hi dv lv;simp only[hi,aU,a8,id]at hρ;refine Jn ?_
  repeat(refine Fy ?_;try first|intro ao cap|intro b)
  rw[show x.l.length+1=(x.l ++[g]).length by simp];apply End.imp (fun w hm=>Mem.x7 (cs:=aJ.cU x.l) (ds:=g.mem) hm tk tk);rw[←aG3];refine End.bK hK (⟨ao,cap,x.l ++[g]⟩,v) ⟨by simp;omega,by dsimp only;omega,by dsimp only;omega,?_⟩ (by simp;omega);rw[hρ,show 50-(x.l ++[g]).length=m by simp;omega];simp[vX,xJ]
theorem OW:∀f,f≤200→AM pb en f
 |0,h=>TO 0 h (fun f' hf=>by omega)
 |f+1,h=>TO (f+1) h (fun f' hf=>by obtain rfl:f=f':=(by omega);exact OW f (by omega))
structure x0 where
 o:Option Addr
 c:Nat
 l:List Fr.Pm
abbrev prm:Fr.Rd Fr.Pm:=fun l=>(Fr.name l).bind fun(s,r)=>(Fr.gK r).map fun(t,r)=>(⟨s,t⟩,r)
theorem TT(s:PS):Pf pb en 94 [ptr pb] [bN] s (Fr.params s.l) (fun x:x0=>x.l) (fun x=> .slice x.o x.l.length x.c) (fun x=>[arr x.o x.l.length x.c 227 nB x.l]):=by
 refine PE [ptr pb] Tryz.func94 Tryz.ntmps94 fun w S=>?_;refine Jn ?_
 obtain⟨ρ,hρ⟩:∃ρ,ρ=Fr.params s.l:=⟨_,rfl⟩;rw[←hρ];unfold Fr.params at hρ;obtain⟨one,hone⟩:∃one,one=prm:=⟨_,rfl⟩;rw[show(fun l=>(Fr.name l).bind fun(s,r)=>(Fr.gK r).map fun(t,r)=>(⟨s,t⟩,r):Fr.Rd Fr.Pm)=one from hone.symm]at hρ
 repeat(refine Fy ?_;try intro b)
 refine PN (lW s b Fr.o1) ?_ ?_;(intro hq e y;refine PO ?_;refine PX (e,y) ?_;simp only[hρ,hq,cE,cC]);intro y hi dy ly;simp only[hi,aU,a8,id]at hρ;refine Jn ?_
 repeat(refine Fy ?_)
 apply aB.imp (fun w hm=>hm.bY 227 nB);refine aB.only ((fun z:x0×PS=>aI w S::bN::arr z.1.o z.1.l.length z.1.c 227 nB z.1.l::cK pb en z.2) (⟨none,0,[]⟩,y)) (aK) ?_;apply aB.loop (σ:=x0×PS) (fun z=>z.1.l.length≤6∧z.2.deep=s.deep∧z.2.l.length≤s.l.length∧ρ=(Fr.listed one (6-z.1.l.length) z.1.l.isEmpty z.2.l).map fun x=>(z.1.l ++x.1,x.2)) (fun z=>[(0,ptr pb),(3, .slice z.1.o z.1.l.length z.1.c)]) (fun z:x0×PS=>aI w S::bN::arr z.1.o z.1.l.length z.1.c 227 nB z.1.l::cK pb en z.2) (fun z=>7-z.1.l.length) (⟨none,0,[]⟩,y)
 rotate_left
 exact sb;exact aK;intro z hz K hK;(refine Jn ?_)
 rotate_left
 ·refine⟨by simp,dy,Nat.le_of_lt ly,?_⟩;rw[hρ];simp
 clear hρ hi dy ly;clear y;obtain⟨x,y⟩:=z;obtain⟨hx,dy,ly,hρ⟩:=hz;dsimp only at hx dy ly hρ⊢;rw[RX]at hρ
 repeat(refine Fy ?_)
 refine PI (gS y Fr.pY) ?_ ?_
 ·intro u hi du lu;simp only[hi,aU,a8,id]at hρ;refine Jn ?_
  repeat(refine Fy ?_)
  exact P1 (x,u) ⟨by rw[hρ];simp,by dsimp only;omega,by dsimp only;omega⟩ rfl
 intro hi;simp only[hi,aU,a8,id]at hρ;refine Jn ?_
 by_cases h0:0<x.l.length
 ·rw[show x.l.isEmpty=false by cases hx:x.l<;>simp_all]at hρ
  repeat(refine Fy ?_;try intro b)
  refine PN (lW y b Fr.w9) ?_ ?_;(intro hq e y;refine PO ?_;refine PX (e,y) ?_;(rw[hρ,hq];cases 6-x.l.length<;>rfl));intro u hi du lu;simp only[hi,aU,a8,id]at hρ;refine Jn ?_
  by_cases h6:x.l.length=6
  ·rw[show 6-x.l.length=0 by omega]at hρ
   repeat(refine Fy ?_)
   refine FQ (oZ u) ?_;intro a ha;refine Jn ?_
   repeat(refine Fy ?_)
   refine PQ (nZ u (uN a)) ?_ ?_;(intro q hq;refine PO ?_;refine PX ((uN a,u)) ?_;exact hρ);intro z _;exact z.elim
  ·obtain⟨m,hm⟩:∃m,6-x.l.length=m+1:=⟨5-x.l.length,by omega⟩;rw[hm]at hρ;simp only[xS,if_false,aU]at hρ
   repeat(refine Fy ?_)
   rw[show one u.l=(Fr.name u.l).bind fun z=>(Fr.gK z.2).map fun q=>(⟨z.1,q.1⟩,q.2) by rw[hone]]at hρ;refine PK (o0 u) ?_ ?_;(intro hq e y;refine PO ?_;refine PX (e,y) ?_;simp only[hρ,hq,cE,cC]);intro g v hi dv lv;simp only[hi,aU,a8,id]at hρ;refine Jn ?_
   repeat(refine Fy ?_)
   refine PK (zC v) ?_ ?_;(intro hq e y;refine PO ?_;refine PX (e,y) ?_;simp only[hρ,hq,cE,cC]);intro k r hi dr lr;simp only[hi,aU,a8,id]at hρ;refine Jn ?_
   repeat(refine Fy ?_;try intro b)
   apply aE.op (by exact rfl);refine aA.jL (a:=(⟨g,k⟩:Fr.Pm)) (k:=?_);intro ao cap
   repeat(refine Fy ?_)
   rw[show x.l.length+1=(x.l ++[(⟨g,k⟩:Fr.Pm)]).length by simp];refine End.bK hK (⟨ao,cap,x.l ++[⟨g,k⟩]⟩,r) ⟨by simp;omega,by dsimp only;omega,by dsimp only;omega,?_⟩ (by simp;omega);rw[hρ,show 6-(x.l ++[(⟨g,k⟩:Fr.Pm)]).length=m by simp;omega,show(⟨ao,cap,x.l ++[⟨g,k⟩]⟩:x0).l.isEmpty=false by simp];simp[vX]
 ·rw[show x.l.isEmpty=true by cases hx:x.l<;>simp_all,show 6-x.l.length=5+1 by omega]at hρ;simp only[if_true,aU]at hρ
  repeat(refine Fy ?_)
  rw[show one y.l=(Fr.name y.l).bind fun z=>(Fr.gK z.2).map fun q=>(⟨z.1,q.1⟩,q.2) by rw[hone]]at hρ;refine PK (o0 y) ?_ ?_;(intro hq e y;refine PO ?_;refine PX (e,y) ?_;simp only[hρ,hq,cE,cC]);intro g v hi dv lv;simp only[hi,aU,a8,id]at hρ;refine Jn ?_
  repeat(refine Fy ?_)
  refine PK (zC v) ?_ ?_;(intro hq e y;refine PO ?_;refine PX (e,y) ?_;simp only[hρ,hq,cE,cC]);intro k r hi dr lr;simp only[hi,aU,a8,id]at hρ;refine Jn ?_
  repeat(refine Fy ?_;try intro b)
  apply aE.op (by exact rfl);refine aA.jL (a:=(⟨g,k⟩:Fr.Pm)) (k:=?_);intro ao cap
  repeat(refine Fy ?_)
  rw[show x.l.length+1=(x.l ++[(⟨g,k⟩:Fr.Pm)]).length by simp];refine End.bK hK (⟨ao,cap,x.l ++[⟨g,k⟩]⟩,r) ⟨by simp;omega,by dsimp only;omega,by dsimp only;omega,?_⟩ (by simp;omega);rw[hρ,show 6-(x.l ++[(⟨g,k⟩:Fr.Pm)]).length=5 by simp;omega,show(⟨ao,cap,x.l ++[⟨g,k⟩]⟩:x0).l.isEmpty=false by simp];simp[vX]
end
attribute [local irreducible] Fr.is Fr.body Fr.name Fr.number Fr.params Fr.gK
variable{pb:Nat}{en:Int}
abbrev dfV(x:DL):Value:= .agg (jW x).toArray
set_option maxHeartbeats 4000000 in
theorem aDn(s:PS)(hs:s.deep=0):Pf pb en 52 [ptr pb] [bN] s (Fr.uL s.l) DL.df dfV (fun x=>[aR x.mem]):=by
 have hB:AM pb en 200:=OW 200 (cG _);refine PE [ptr pb] Tryz.func52 Tryz.ntmps52 fun w S=>?_;refine Jn ?_
 obtain⟨ρ,hρ⟩:∃ρ,ρ=Fr.uL s.l:=⟨_,rfl⟩;rw[←hρ];unfold Fr.uL at hρ
 repeat(refine Fy ?_;try intro b)
 refine FQ (oZ s) ?_;intro at_ hat_;refine Jn ?_
 repeat(refine Fy ?_)
 refine PI (gS s Fr.XL) ?_ ?_
 ·intro y hi dy ly;simp only[hi,aU,a8,id]at hρ;refine Jn ?_
  repeat(refine Fy ?_)
  refine PK (o0 y) ?_ ?_;(intro hq e y;refine PO ?_;refine PX (e,y) ?_;simp only[hρ,hq,cE,cC]);intro g u hi du lu;simp only[hi,aU,a8,id]at hρ;refine Jn ?_
  repeat(refine Fy ?_)
  refine PK (zC u) ?_ ?_;(intro hq e y;refine PO ?_;refine PX (e,y) ?_;simp only[hρ,hq,cE,cC]);intro t v hi dv lv;simp only[hi,aU,a8,id]at hρ;refine Jn ?_
  repeat(refine Fy ?_;try intro b)
  refine FQ (oZ v) ?_;intro a ha;refine Jn ?_
  repeat(refine Fy ?_)
  refine PK (TR v) ?_ ?_;(intro hq e y;refine PO ?_;refine PX (e,y) ?_;simp only[hρ,hq,cE,cC]);intro n v4 hi dv4 lv4;simp only[hi,aU,a8,id]at hρ;refine Jn ?_
  by_cases hn:n<1∨20<n
  ·rw[if_pos hn]at hρ
   by_cases h1:n<1
   ·repeat(refine Fy ?_)
    refine PQ (nZ v4 (DU a)) ?_ ?_;(intro q hq;refine PO ?_;refine PX ((DU a,v4)) ?_;exact hρ);intro z _;exact z.elim
   ·have h2:20<n:=by omega
    repeat(refine Fy ?_)
    refine PQ (nZ v4 (DU a)) ?_ ?_;(intro q hq;refine PO ?_;refine PX ((DU a,v4)) ?_;exact hρ);intro z _;exact z.elim
  ·rw[if_neg hn]at hρ;have h1:¬n<1:=fun h=>hn (.inl h)
   have h2:¬20<n:=fun h=>hn (.inr h)
   repeat(refine Fy ?_;try intro b)
   refine PN (lW v4 b Fr.FG) ?_ ?_;(intro hq e y;refine PO ?_;refine PX (e,y) ?_;simp only[hρ,hq,cE,cC]);intro r hi dr lr;simp only[hi,aU,a8,id]at hρ;refine Jn ?_
   repeat(refine Fy ?_)
   apply End.imp (fun w hm=>Mem.E2 (⟨1,g,t,default,n,none,0,[],none,0,[]⟩:DL) ((hm.eX.bY 259 fJ).bY 227 nB) .head .head .head);exact PC ((⟨1,g,t,default,n,none,0,[],none,0,[]⟩:DL),r) ⟨hρ,by dsimp only;omega,by dsimp only;omega⟩ (by exact rfl)
 intro hi;simp only[hi,aU,a8,id]at hρ;refine Jn ?_
 repeat(refine Fy ?_)
 refine PI (gS s Fr.XP) ?_ ?_
 ·intro y hi dy ly;simp only[hi,aU,a8,id]at hρ;refine Jn ?_
  repeat(refine Fy ?_)
  refine PK (o0 y) ?_ ?_;(intro hq e y;refine PO ?_;refine PX (e,y) ?_;simp only[hρ,hq,cE,cC]);intro g u hi du lu;simp only[hi,aU,a8,id]at hρ;refine Jn ?_
  repeat(refine Fy ?_)
  refine PK (TT u) ?_ ?_;(intro hq e y;refine PO ?_;refine PX (e,y) ?_;simp only[hρ,hq,cE,cC]);intro p v hi dv lv;simp only[hi,aU,a8,id]at hρ;refine Jn ?_
  repeat(refine Fy ?_;try intro b)
  refine PK (zC v) ?_ ?_;(intro hq e y;refine PO ?_;refine PX (e,y) ?_;simp only[hρ,hq,cE,cC]);intro t q hi dq lq;simp only[hi,aU,a8,id]at hρ;refine Jn ?_
  repeat(refine Fy ?_)
  refine PK (hB q (by omega)) ?_ ?_;(intro hq e y;refine PO ?_;refine PX (e,y) ?_;simp only[hρ,hq,cE,cC]);intro x r hi dr lr;simp only[hi,aU,a8,id]at hρ;refine Jn ?_
  repeat(refine Fy ?_)
  apply End.imp (fun w hm=>Mem.E2 (⟨2,g,t,default,0,p.o,p.c,p.l,x.o,x.c,x.l⟩:DL) hm tk tk tk);exact PC ((⟨2,g,t,default,0,p.o,p.c,p.l,x.o,x.c,x.l⟩:DL),r) ⟨hρ,by dsimp only;omega,by dsimp only;omega⟩ (by exact rfl)
 intro hi;simp only[hi,aU,a8,id]at hρ;refine Jn ?_
 repeat(refine Fy ?_)
 refine PI (gS s Fr.XQ) ?_ ?_
 ·intro y hi dy ly;simp only[hi,aU,a8,id]at hρ;refine Jn ?_
  repeat(refine Fy ?_)
  refine PK (o0 y) ?_ ?_;(intro hq e y;refine PO ?_;refine PX (e,y) ?_;simp only[hρ,hq,cE,cC]);intro g u hi du lu;simp only[hi,aU,a8,id]at hρ;refine Jn ?_
  repeat(refine Fy ?_)
  refine PK (TT u) ?_ ?_;(intro hq e y;refine PO ?_;refine PX (e,y) ?_;simp only[hρ,hq,cE,cC]);intro p v hi dv lv;simp only[hi,aU,a8,id]at hρ;refine Jn ?_
  repeat(refine Fy ?_;try intro b)
  refine PN (lW v b Fr.X1) ?_ ?_;(intro hq e y;refine PO ?_;refine PX (e,y) ?_;simp only[hρ,hq,cE,cC]);intro v1 hi dv1 lv1;simp only[hi,aU,a8,id]at hρ;refine Jn ?_
  repeat(refine Fy ?_)
  refine PK (zC v1) ?_ ?_;(intro hq e y;refine PO ?_;refine PX (e,y) ?_;simp only[hρ,hq,cE,cC]);intro k v2 hi dv2 lv2;simp only[hi,aU,a8,id]at hρ;refine Jn ?_
  repeat(refine Fy ?_;try intro b)
  refine PN (lW v2 b Fr.X6) ?_ ?_;(intro hq e y;refine PO ?_;refine PX (e,y) ?_;simp only[hρ,hq,cE,cC]);intro v3 hi dv3 lv3;simp only[hi,aU,a8,id]at hρ;refine Jn ?_
  repeat(refine Fy ?_)
  refine PK (zC v3) ?_ ?_;(intro hq e y;refine PO ?_;refine PX (e,y) ?_;simp only[hρ,hq,cE,cC]);intro t q hi dq lq;simp only[hi,aU,a8,id]at hρ;refine Jn ?_
  repeat(refine Fy ?_)
  refine PK (hB q (by omega)) ?_ ?_;(intro hq e y;refine PO ?_;refine PX (e,y) ?_;simp only[hρ,hq,cE,cC]);intro x r hi dr lr;simp only[hi,aU,a8,id]at hρ;refine Jn ?_
  repeat(refine Fy ?_)
  apply End.imp (fun w hm=>Mem.E2 (⟨3,g,t,k,0,p.o,p.c,p.l,x.o,x.c,x.l⟩:DL) hm tk tk tk);exact PC ((⟨3,g,t,k,0,p.o,p.c,p.l,x.o,x.c,x.l⟩:DL),r) ⟨hρ,by dsimp only;omega,by dsimp only;omega⟩ (by exact rfl)
 intro hi;simp only[hi,aU,a8,id]at hρ;refine Jn ?_
 repeat(refine Fy ?_)
 refine PI (gS s Fr.X2) ?_ ?_
 ·intro y hi dy ly;simp only[hi,aU,a8,id]at hρ;refine Jn ?_
  repeat(refine Fy ?_)
  refine PK (o0 y) ?_ ?_;(intro hq e y;refine PO ?_;refine PX (e,y) ?_;simp only[hρ,hq,cE,cC]);intro g u hi du lu;simp only[hi,aU,a8,id]at hρ;refine Jn ?_
  repeat(refine Fy ?_)
  refine PK (hB u (by omega)) ?_ ?_;(intro hq e y;refine PO ?_;refine PX (e,y) ?_;simp only[hρ,hq,cE,cC]);intro x r hi dr lr;simp only[hi,aU,a8,id]at hρ;refine Jn ?_
  repeat(refine Fy ?_)
  apply End.imp (fun w hm=>Mem.E2 (⟨4,g,default,default,0,none,0,[],x.o,x.c,x.l⟩:DL) (hm.bY 227 nB) tk tk tk);exact PC ((⟨4,g,default,default,0,none,0,[],x.o,x.c,x.l⟩:DL),r) ⟨hρ,by dsimp only;omega,by dsimp only;omega⟩ (by exact rfl)
 intro hi;simp only[hi,aU,a8,id]at hρ;refine Jn ?_
 repeat(refine Fy ?_)
 refine PQ (nZ s (pS at_)) ?_ ?_;(intro q hq;refine PO ?_;refine PX ((pS at_,s)) ?_;exact hρ);intro z _;exact z.elim
end Vw
section
open Go Go.RowKit
section
variable{P:Program}{σ:Type}{post:σ→Prop}{mem:σ→List Chunk}{f:FuncId}{fn:Func}{c:Code}{R pre:List Chunk}
theorem UW{args:List Value}{id d N:Nat}{ty:TypeId}{pos:String}{aft:Array Edge}{u u':FrameMode}{v:Value}(hf:P.funcs[f]?=some fn)(hb:fn.body=some (.seq (.region id #[⟨some d, .call ⟨.builtin .recover, #[], #[]⟩,ty,pos,aft,none⟩] false) c))(hN:fn.ntmps=N)(hA:Nat.ble args.length N=true)(hd:Nat.blt d N=true)(hR:∀c∈R,c.bB=false)
  (hrec:∀(c0:Frame) (cs:List Frame),c0.mode=u→recoverD (c0::cs)=some (v,{c0 with mode:=u'}::cs)∨(recoverD (c0::cs)=none∧v= .nilIface∧u'=u))
  (h:∀w S,aB P (bodyPost P fn (fZ post (fun _=> .tuple #[]) mem w S)) ⟨N,[]⟩ c ((d,v)::first 0 args) (aI w S::(R ++pre))):
  ∀w,Mem w (R ++pre)→CallsD P f args.toArray u w fun e u1 w'=>u1=u'∧fZ post (fun _=> .tuple #[]) mem w (eQ pre) e w':=by
 intro w hm;have hA:=Nat.le_of_ble_eq_true hA;subst hN;refine callsD_of_wpS hf hb (fun c0 cs hu=>wpS_seq (wpS_region ?_));have hs:=(BH hA (args:=args)).put (dst:=some d) v hd;have hw:=h w (eQ pre) _ w hs (zO hR hm);have key:∀cs',cs'={c0 with mode:=u'}::cs→c.wpS P (bodyPostS P fn c0 cs fun e u1 w'=>u1=u'∧fZ post (fun _=> .tuple #[]) mem w (eQ pre) e w') (Act.put {tmps:=args.toArray ++Array.replicate (fn.ntmps-args.toArray.size) undef,defers:=[]} (some d) v) cs' w:=by
  rintro cs' rfl;refine wpS_of_wp (wp_mono hw fun e a' w' hq=>?_)
  cases e with
  |normal=>obtain⟨h1,v',h2,h3⟩:=hq;exact⟨h1,u',rfl,v',h2,rfl,h3⟩
  |ret=>obtain⟨h1,v',h2,h3⟩:=hq;exact⟨h1,u',rfl,v',h2,rfl,h3⟩
  |panic ch=>obtain⟨h1,h2⟩:=hq;exact⟨h1,u',rfl,rfl,h2⟩
  |outgrown=>exact⟨u',rfl,hq⟩
  |exit id=>exact hq
  |goto l=>exact hq
 have hr:∀ρ,(execOp ρ (⟨some d, .call ⟨.builtin .recover, #[], #[]⟩,ty,pos,aft,none⟩:Oper)).run P w= .ok .recover w:=fun ρ=>by
  simp[execOp,resolve,invoke,builtin]
 show wpOpsS P _ _ [0] _ _ w;unfold wpOpsS;simp only[List.getElem?_toArray,List.getElem?_cons_zero,Region.wanted,if_true,hr];rcases hrec c0 cs hu with h1|⟨h1,rfl,rfl⟩
 ·rw[h1];exact key _ rfl
 ·rw[h1];refine key _ ?_
  cases c0;cases hu;rfl
end
def wJ(P:Program)(fn:Func)(t u:Tmp)(R:Ending→World→Prop):Exit→Act→World→Prop
 | .panic ch,a,w=>∃p q:Value,(a.tmps[t]?=some p∧a.tmps[u]?=some q)∧∀tmps:Array Value,tmps.size=a.tmps.size→tmps[t]?=some p→tmps[u]?=some q→Leaves P fn tmps R a.defers (.panicking ch) w
 |e,a,w=>bodyPostD P fn R e a w
def l8(Q:Exit→Act→World→Prop)(d:Tmp):Prop:=∀c a w v,Q (.panic c) (Act.put a (some d) v) w→Q (.panic c) a w
section
variable{P:Program} [eP P]{Q:Exit→Act→World→Prop}{N:Nd}{E:Env}{L L' F:List Chunk}{ops:Array Oper}{fn:Func}{t u:Tmp}{R':Ending→World→Prop}
theorem l8.body{d:Tmp}(h1:d≠t)(h2:d≠u):l8 (wJ P fn t u R') d:=fun c a w v ⟨p,q,⟨h3,h4⟩,h⟩=>
 ⟨p,q,⟨by simpa[Act.put,DB,h1]using h3,by simpa[Act.put,DB,h2]using h4⟩,fun tmps hs a b=>h tmps (by simpa[Act.put]using hs) a b⟩
theorem l8.pX{d:Tmp}{y:Code}(h:l8 Q d):l8 (fE P y Q) d:=by unfold fE;exact h
theorem l8.p7{d:Tmp}{K:Act→World→Prop}(h:l8 Q d):l8 (Exit.then K Q) d:=h
theorem l8.block{d:Tmp}{id:Nat}(h:l8 Q d):l8 (Exit.inBlock id Q) d:=h
section
variable{e:Nat}{LT:List Chunk}{fuel:Nat}{listed:Array Bool}
theorem RunT.vD(i:Nat){d:Tmp}{op:Op}{ty:TypeId}{pos:String}{aft:Array Edge}{v:Value}(hi:ops[i]?=some ⟨some d,op,ty,pos,aft,none⟩:=by exact rfl)(hQ:l8 Q d:=by(repeat(first|exact l8.body (by decide) (by decide)|apply l8.pX|apply l8.p7|apply l8.block));first|done|fail)(h:RunT P ops Q N e LT fuel (listed.setIfInBounds i true) ((d,v)::E) L)(hy:Still P N ⟨some d,op,ty,pos,aft,none⟩ E LT v:=by exact p6)(ht:aQ LT L F:=by exact aK)(hns:Region.noSelect ops=true:=by kernel_rfl)(hf:Region.free .any ops listed i=true:=by kernel_rfl)(hr:(Region.ready .any ops listed).contains i=true:=by kernel_rfl)(hcl:A6 .any ops listed=true:=by kernel_rfl)(hw:sE .any ops i ops.size e=true:=by kernel_rfl)
  (hd:Nat.blt d N.n=true:=by kernel_rfl):RunT P ops Q N e LT (fuel+1) listed E L:=
 fun a w hs hM=>YB hi (Region.noSelect_spec hns) (fun c a w hq=>hQ c a w _ hq) hw fuel listed a w (PA hcl) (Region.free_spec hi hf) (by simpa using hr)
  (.inl ⟨by simp[Region.wanted],fun w' hw'=>hy a w' hs hw'⟩) (hM.aS ht).left (h _ w (hs.put (dst:=some d) v hd) hM)
end
variable{σ:Type}{post:σ→Prop}{val:σ→Value}{mem:σ→List Chunk}{f:FuncId}{c:Code}{R pre:List Chunk}
theorem FnR.enter{args:List Value}(t u:Tmp)(N:Nat)(hf:P.funcs[f]?=some fn)(hN:fn.ntmps=N)(h:∀w S,aB P (wJ P fn t u (fZ post val mem w S)) ⟨N,[]⟩ c (first 0 args) (aI w S::(R ++pre)))(hb:fn.body=some c:=by exact rfl)(hA:Nat.ble args.length N=true:=by exact rfl)(hR:∀c∈R,c.bB=false:=by simp[fP,m9, *]):Fn P f args.toArray R pre post val mem:=by
 intro w hm;have hA:=Nat.le_of_ble_eq_true hA;subst hN;exact calls_of_wp_defers hf hb (wp_mono (h w (eQ pre) _ w (BH hA) (zO hR hm)) fun e a w' hq=>by
  cases e with
  |panic ch=>obtain⟨p,q,⟨h1,h2⟩,h3⟩:=hq;exact h3 a.tmps rfl h1 h2
  |_=>exact hq)
theorem End.UX(h:fY P fn R' N .returning E L):End (wJ P fn t u R') N .ret E L:=fun a w hs hm=>by
 show Leaves P fn a.tmps R' a.defers .returning w;rw[hs.defs];exact h a w hs hm
theorem End.aDt{p q:Value}{ch:List PanicEntry}(h:fY P fn R' N (.panicking ch) [(t,p),(u,q)] L)(ht:look E t=Option.some p:=by exact rfl)(hu:look E u=Option.some q:=by exact rfl)(htu:look [(t,p),(u,q)] u=Option.some q:=by exact rfl):End (wJ P fn t u R') N (.panic ch) E L:=fun a w hs hm=>
 ⟨p,q,⟨hs.slot _ _ ht,hs.slot _ _ hu⟩,fun tmps h0 h1 h2=>by
  rw[hs.defs];exact h {tmps:=tmps,defers:=N.ds} w ⟨h0.trans hs.size,rfl,fun d v hd=>by
  simp only[yU]at hd
  split at hd
  ·rename_i he;subst he;cases hd;exact h1
  ·split at hd
   ·rename_i he;subst he;cases hd;exact h2
   ·cases hd⟩ hm⟩
theorem fY.recover{n:Nat}{ds:List Deferred}{vs cap:Array Value}{ch:List PanicEntry}{u':FrameMode}(hc:fM P f=true)(spec:∀w,Mem w (R ++pre)→CallsD P f (vs ++cap) (.panicking ch) w fun e u1 w'=>u1=u'∧fZ post (fun _=> .tuple #[]) mem w (eQ pre) e w')(hu':settle u'= .returning)(t:aQ pre L F)(r:∀w,Reads w R F)(k:∀s,post s→fY P fn R' ⟨n,ds⟩ .returning E (mem s ++F)):
  fY P fn R' ⟨n,{target:= .fn (.func f) cap,args:=vs}::ds⟩ (.panicking ch) E L:=fun a w hs hm=>by
 refine leaves_cons (by simp) (xC hc _) ((spec w ((hm.aS t).reads (r w))).mono ?_);rintro e u1 w' ⟨rfl,s,h1,rfl,hx,hm'⟩;show Leaves P fn a.tmps R' ds (settle _) w';rw[hu'];exact k s h1 {a with defers:=ds} w' ⟨hs.size,rfl,hs.slot⟩ ((hm.aS t).frame hm' hx)
theorem fY.quiet{n:Nat}{ds:List Deferred}{vs cap:Array Value}(hc:fM P f=true)(spec:∀w,Mem w (R ++pre)→CallsD P f (vs ++cap) .returning w fun e u1 w'=>u1= .returning∧fZ post (fun _=> .tuple #[]) mem w (eQ pre) e w')(t:aQ pre L F)(r:∀w,Reads w R F)(k:∀s,post s→fY P fn R' ⟨n,ds⟩ .returning E (mem s ++F)):
  fY P fn R' ⟨n,{target:= .fn (.func f) cap,args:=vs}::ds⟩ .returning E L:=fun a w hs hm=>by
 refine leaves_cons (by simp) (xC hc _) ((spec w ((hm.aS t).reads (r w))).mono ?_);rintro e u1 w' ⟨rfl,s,h1,rfl,hx,hm'⟩;show Leaves P fn a.tmps R' ds (settle .returning) w';exact k s h1 {a with defers:=ds} w' ⟨hs.size,rfl,hs.slot⟩ ((hm.aS t).frame hm' hx)
theorem KT{n:Nat}{ty ty2 bt bt2:TypeId}{b b2 s' b':Nat}{v:Value}{ti:jK}{fs:List (Nat×TypeId)}{z' cs:List Value}{L2:List Chunk}(hr:fn.results= #[.cell t ty, .cell u ty2])(hv:look E t=some (.pointer (some ⟨b,0,none⟩)))(hu:look E u=some (.pointer (some ⟨b2,0,none⟩)))(ht:aW P ty=some ti)(hd:ti.d.row=false)(ht2:aW P ty2=some ⟨.struct fs,s',b',z'⟩)
  (hm:Take (aD b [v] bt) L L') (hm2:Take (aD b2 cs bt2) L L2) (hl:cs.length=s') (h:∀w,Mem w L→R' (.returned (.tuple #[v, .agg cs.toArray])) w):fY P fn R' ⟨n,[]⟩ .returning E L:=fun a w hs hM=>by
 have hb:=jU.1 (hM.has hm);have hc:w.cell? ⟨b,0,none⟩=some v:=by rw[hb.cell];rfl
 have h1:(loadVar ty ⟨b,0,none⟩).run P w= .ok v w:=by simp[loadVar,(b7 ht).isAgg hd,load,Sem.run,hc]
 have h2:=xD ht2 (jU.1 (hM.has hm2)) hl;exact⟨.tuple #[v, .agg cs.toArray],by simp[results,hr,hs.slot t _ hv,hs.slot u _ hu,asAddr,h1,h2],h w hM⟩
end
end
section
section
open Go Go.RowKit
theorem Still.Y2{P:Program} [eP P]{N:Nd}{E:Env}{L:List Chunk}{dst:Option Tmp}{ty:TypeId}{pos:String}{aft:Array Edge}{g:Option (Nat×Bool)}{x:Operand}{t xT:TypeId}{v:Value}{s b:Nat}{z:List Value}{fs:List (Nat×TypeId)}(hx:ev E x=some (.iface t v))(ht:aW P t=some ⟨.struct fs,s,b,z⟩):Still P N ⟨dst, .typeAssert x xT t true,ty,pos,aft,g⟩ E L (.tuple #[v, .bool true]):=fun A w hs _=>by
 obtain⟨l,h1, -⟩:=(b7 ht).struct;simp[execOp,hs.ev hx,Instr.typeAssert,run_underlying h1]
end
end
namespace Vw
open Go.RowKit Img
section
attribute [local irreducible] aE aB End aA Still aM aP RunT Fn aO
theorem aE3(rb fb:Nat)(v0 a0 a1:Value)(e:lM):∀w,Mem w ([] ++[aD rb [v0] 68,aD fb [a0,a1] 70])→CallsD Tryz.prog 49 #[ptr rb,ptr fb] (.panicking (nA (qV e))) w fun x u1 w'=>u1= .panicking [{v:=qV e,recovered:=true}]∧fZ (σ:=Unit) (fun _=>True) (fun _=> .tuple #[]) (fun _=>[aD rb [.slice none 0 0] 68,aD fb [.int .i64 e.1.1, .int .i64 e.1.2] 70]) w (eQ [aD rb [v0] 68,aD fb [a0,a1] 70]) x w':=by
 refine UW (args:=[ptr rb,ptr fb]) (v:=qV e) Tryz.func49 rfl Tryz.ntmps49 rfl rfl (by simp) (fun c0 cs h=> .inl ?_) (fun w S=>?_)
 ·simp[recoverD,h,nA]
 refine Jn ?_
 repeat(refine Fy ?_)
 apply aE.op (by exact rfl);refine aA.b8 (h:=Still.Y2 rfl rfl) (k:=?_)
 repeat(refine Fy ?_;try intro b)
 apply aB.draw 3 ([aD b [.int .i64 e.1.1, .int .i64 e.1.2] 135]) (by kernel_rfl) 4 rfl;refine RunT.a7 0 (hQ:=bA) (h:=?_);refine RunT.a7 1 (hQ:=bA) (h:=?_);(refine JT 2 ?_;(refine Jw ?_);refine JG ?_);(refine JT 3 ?_;(refine Jw ?_);refine JG ?_);(apply RunT.done;kernel_rfl)
 repeat(refine Fy ?_)
 exact End.cY () (hp:=trivial)
theorem aE4(rb fb:Nat):∀w,Mem w ([] ++[])→CallsD Tryz.prog 49 #[ptr rb,ptr fb] .returning w fun x u1 w'=>u1= .returning∧fZ (σ:=Unit) (fun _=>True) (fun _=> .tuple #[]) (fun _=>[]) w (eQ []) x w':=by
 refine UW (args:=[ptr rb,ptr fb]) (v:= .nilIface) Tryz.func49 rfl Tryz.ntmps49 rfl rfl (by simp) (fun c0 cs h=> .inr ⟨?_,rfl,rfl⟩) (fun w S=>?_)
 ·simp[recoverD,h]
 refine Jn ?_
 repeat(refine Fy ?_)
 exact End.cY () (hp:=trivial)
end
end Vw
end Go.Proofs.YtofckcabpchcmaaGreatDoor
