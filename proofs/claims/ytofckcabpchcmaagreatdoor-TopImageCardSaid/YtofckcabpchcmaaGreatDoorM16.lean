/- Rules for walks: a method called through an interface value; a function value against nil. Of whatever program. -/
import Derived.Test.YtofckcabpchcmaaGreatDoorM15
import Derived.Laws.IdiomCopy
set_option linter.unusedVariables false
set_option linter.unusedSimpArgs false
set_option linter.unusedSectionVars false
set_option maxRecDepth 100000
namespace Go.Proofs.YtofckcabpchcmaaGreatDoor
section
open Go
section
variable{P:Program}{Q:Exit→Act→World→Prop}{N:Nd}{E:Env}{L L':List Chunk}
variable{dst:Option Tmp}{ty:TypeId}{pos:String}{aft:Array Edge}{g:Option (Nat×Bool)}
def wW(P:Program)(T:TypeId)(rv:Value)(name:String)(f:FuncId):Prop:=∀w,(method (P.types.size+Made.depth) T rv name).run P w= .ok (f,rv) w
theorem aB.aAZ{σ:Type}{x:Operand}{name:String}{args:List Operand}{eI:Array TypeId}{T:TypeId}{rv:Value}{f:FuncId}{vs:List Value}
  {R pre F:List Chunk} {post:σ→Prop} {val:σ→Value} {mem:σ→List Chunk} {C:Env→List Chunk→Prop}
  (hx:ev E x=some (.iface T rv)) (hv:gD E args vs) (hm:wW P T rv name f) (hc:fW P f=true) (hd:cR N dst=true)
  (spec:Fn P f (rv::vs).toArray R pre post val mem) (t:aR pre L F) (r:∀w,Reads w R F) (k:∀s,post s→C (cP dst (val s) E) (mem s ++F)):
  aB P Q N ⟨dst, .call ⟨.invoke x name,args.toArray,eI⟩,ty,pos,aft,g⟩ E L C:=by
 intro K hK a w hs hM;have hr:(execOp a.eval ⟨dst, .call ⟨.invoke x name,args.toArray,eI⟩,ty,pos,aft,g⟩).run P w= .ok (.enter f (rv::vs).toArray) w:=by
  have e:args.toArray.map a.eval=vs.toArray:=by rw[←hs.nZ hv];simp
  have e2: #[Value.iface T rv] ++vs.toArray=(Value.iface T rv::vs).toArray:=aW;have e3:(Value.iface T rv::vs).toArray.extract 1 (Value.iface T rv::vs).toArray.size=vs.toArray:=aW;have e4:(Value.iface T rv::vs).toArray[0]?=some (Value.iface T rv):=aW;have hm':=hm w;simp only[execOp,resolve,hs.ev hx,e,e2,Sem.run_bind,Sem.run_pure,Result.andThen_ok,invoke,e4,e3,callMethod,run_program,hm'];rw[yD hc];simp
 unfold Oper.wp;rw[hr,Oper.upon_enter];refine(spec w ((hM.aP t).reads (r w))).mono ?_;rintro e w' ⟨s,hp,rfl,hx,hm'⟩;exact hK _ _ (k s hp) _ _ (hs.put _ hd) ((hM.aP t).frame hm' hx)
theorem Still.aDS{xT t:TypeId}{x:Operand}{v:Value}{s b:Nat}{z:List Value}{e:TypeId} [eT P](hx:ev E x=some v)(ht:bB P xT=some ⟨.slice e,s,b,z⟩):
  Still P N ⟨dst, .makeInterface xT x,ty,pos,aft,g⟩ E L (.iface xT v):=fun A w hs _=>by
 have:=(cI ht).slice;simp[execOp,hs.ev hx,Instr.makeInterface,run_underlying this]
theorem aB.EN{σ:Type}{x:Operand}{name:String}{args:List Operand}{eI:Array TypeId}{T:TypeId}{rv:Value}{f:FuncId}{vs:List Value}
  {R pre F:List Chunk} {post:σ→Prop} {val:σ→Value} {mem:σ→List Chunk} {C:Env→List Chunk→Prop}
  (hm:wW P T rv name f) (hc:fW P f=true) (spec:Fn P f (rv::vs).toArray R pre post val mem)
  (hx:ev E x=some (.iface T rv):=by exact rfl) (hv:gD E args vs:=by exact n4) (hd:cR N dst=true:=by exact rfl)
  (t:aR pre L F:=by exact cA) (r:∀w,Reads w R F:=by intro w;exact DF) (k:∀s,post s→C (cP dst (val s) E) (mem s ++F)):
  aB P Q N ⟨dst, .call ⟨.invoke x name,args.toArray,eI⟩,ty,pos,aft,g⟩ E L C:=aB.aAZ hx hv hm hc hd spec t r k
end
structure Rw where
 o:Option Addr
 c:Nat
 l:List Int
instance:Inhabited Rw:=⟨⟨none,0,[]⟩⟩
def nM(r:Rw):List Value:=[.slice r.o r.l.length r.c]
instance:bH nM:=⟨fun _=>rfl,aK,fun a u hu=>by simp[nM]at hu;subst hu;rfl⟩
def rP(n:Nat):List Value:=[.int .i64 n]
instance:bH rP:=⟨fun _=>rfl,aK,fun a u hu=>by simp[rP]at hu;subst hu;rfl⟩
structure FL where
 o:Option Addr
 c:Nat
 l:List Rw
instance:Inhabited FL:=⟨⟨none,0,[]⟩⟩
abbrev FL.val(f:FL):Value:= .slice f.o f.l.length f.c
abbrev FL.ws(f:FL):List (List Int):=f.l.map (·.l)
theorem SQ(l:List Rw)(k:Nat):(l.map (·.l)).getD k []=(l.getD k default).l:=by
 simp only[Jd,JU]
 cases l[k]?<;>rfl
structure tA(w:World)(f:FL):Prop where
 out:Row w (.slice f.o f.l.length f.c) (sz nM) f.l.length (f.l.flatMap nM)
 row:∀r∈f.l,Row w (.slice r.o r.l.length r.c) (sz aY) r.l.length (r.l.flatMap aY)
def D5(f:FL)(k:Nat):Prop:=
 ((Value.slice f.o f.l.length f.c).ownBlock=some k∧0<f.l.length)∨∃r∈f.l,(Value.slice r.o r.l.length r.c).ownBlock=some k∧0<r.l.length
theorem tA.pN{w w':World}{f:FL}(h:tA w f){S:Nat→Prop}(k:cB S w w')(hs:∀b,D5 f b→¬S b):tA w' f:=
 ⟨h.out.tW bH.pos k (fun b h1 h2=>hs b (.inl ⟨h1,h2⟩)),fun r hr=>(h.row r hr).tW bH.pos k (fun b h1 h2=>hs b (.inr ⟨r,hr,h1,h2⟩))⟩
theorem tA.lt{w:World}{f:FL}(h:tA w f):∀b,D5 f b→b<w.heap.size:=by
 rintro b (⟨h1,h2⟩|⟨r,hr,h1,h2⟩)
 ·exact h.out.tZ bH.pos h2 b h1
 ·exact(h.row r hr).tZ bH.pos h2 b h1
@[irreducible] def fd (f : FL) : Chunk where
 holds w:=tA w f
 dA:=D5 f
 bE:=false
 lT k hs h:=h.pN k hs
 lt h:=h.lt
theorem E2{w:World}{f:FL}:(fd f).holds w↔tA w f:=by unfold fd;exact Iff.rfl
theorem I4{f:FL}{k:Nat}:(fd f).dA k↔D5 f k:=by unfold fd;exact Iff.rfl
theorem tQ{f:FL}:(fd f).bE=false:=by unfold fd;rfl
theorem M1{l:List Rw}{k:Nat}(hk:k<l.length):l.getD k default∈l:=by
 rw[Jd,Je hk];exact hZ hk
theorem tA.small{w:World}{f:FL}(h:tA w f):f.l.length≤9223372036854775807∧∀k,k<f.l.length→(f.l.getD k default).l.length≤9223372036854775807:=
 ⟨h.out.2.1,fun k hk=>(h.row _ (M1 hk)).2.1⟩
section
variable{f:FL}{L L':List Chunk}{w:World}
theorem Mem.RT(t:Take (fd f) L L')(h:Mem w L):Mem w (rd f.o f.l.length f.c nM f.l::L):=
 h.dup t eO (jJ.2 ⟨(E2.1 (h.has t)).out,rfl⟩) (fun b hb=>I4.2 (.inl (iZ.1 hb))) tQ
theorem Mem.RU{k:Nat}(hk:k<f.l.length)(t:Take (fd f) L L')(h:Mem w L):Mem w (rd (f.l.getD k default).o (f.l.getD k default).l.length (f.l.getD k default).c aY (f.l.getD k default).l::L):=
 h.dup t eO (jJ.2 ⟨(E2.1 (h.has t)).row _ (M1 hk),rfl⟩) (fun b hb=>I4.2 (.inr ⟨_,M1 hk,iZ.1 hb⟩)) tQ
end
abbrev uK(t:TypeId)(r:Rw):Chunk:=arr r.o r.l.length r.c t aY r.l
theorem aGa{α:Type} [Inhabited α]{l:List α}{k:Nat}(h:k<l.length):∃s u,l=s ++l.getD k default::u∧s.length=k:=by
 refine⟨l.take k,l.drop (k+1),?_,by simp;omega⟩;rw[Jd,Je h,JZ,List.getElem_cons_drop,y6]
theorem W3{α:Type}(s u:List α)(a b:α):(s ++a::u).set s.length b=s ++b::u:=by
 rw[List.set_append_right _ _ (bS _),Nat.sub_self];rfl
theorem SP{α:Type} [Inhabited α](s u:List α)(a:α):(s ++a::u).getD s.length default=a:=by
 simp[Jd]
section
variable{P:Program}{T:TypeId}{rv:Value}{name:String}{f:FuncId}
theorem E5{ptr:Bool}(hm:((P.info? T).bind (fun i=>i.methods.find? (·.name==name))).map (fun m=>(m.path.toList,m.func))=some ([],some (f,ptr)))
  (hr:∀w o,(receiverAt T (.val rv) ptr o).run P w= .ok rv w):wW P T rv name f:=by
 intro w;have hd:0<Made.depth:=aK;obtain⟨k,hk⟩:∃k,P.types.size+Made.depth=k+1:=⟨P.types.size+(Made.depth-1),aA⟩;rw[hk]
 cases hi:P.info? T with
 |none=>rw[hi]at hm;cases hm
 |some i=>
  rw[hi]at hm;simp only[eR]at hm
  cases hj:i.methods.find? (·.name==name)with
  |none=>rw[hj]at hm;cases hm
  |some m=>
   rw[hj]at hm;simp only[pA,tE,u7]at hm;unfold method;rw[Sem.run_bind,run_typeInfo w hi,Result.andThen_ok];simp only[hj,hm.1,hm.2];simp[follow,hr]
theorem E6{e:TypeId}(hu:P.underlying T=some (.slice e))(w:World)(o:Option String):(receiverAt T (.val rv) false o).run P w= .ok rv w:=by
 unfold receiverAt;rw[Sem.run_bind,run_underlying hu w,Result.andThen_ok];rfl
end
end
section
open Go.RowKit Go.ChangeShapes Go.WideShapes Go.ChangeAt
section
variable{H:Type}{enc:TypeId×Value→H}{P:Program}{w:World}{base:Nat}{spare:Nat→Bool}{held:Bool}
end
section
variable{H:Type}{enc:TypeId×Value→H}{w:World}
end
end
section
open Go Go.RowKit
section
variable{P:Program} [eT P]{Q:Exit→Act→World→Prop}{N:Nd}{E:Env}{L L':List Chunk}
variable{dst:Option Tmp}{ty:TypeId}{pos:String}{aft:Array Edge}{g:Option (Nat×Bool)}
theorem aB.aAo{t e:TypeId}{x y:Operand}{ao xo:Option Addr}{n cap m c s' b' s2 b2:Nat}{d2:dO}{z' z2:List Value}{l l2:List Int}{C:Env→List Chunk→Prop}
  (hx:ev E x=some (.slice ao n cap)) (hy:ev E y=some (.slice xo m c)) (ht:bB P t=some ⟨.slice e,s',b',z'⟩) (he:bB P e=some ⟨d2,s2,b2,z2⟩) (hs2:s2=1) (hm:Take (arr ao n cap e aY l) L L') (hr:bY L' xo m c aY l2) (hmn:m≤n) (hd:cR N dst=true)
  (k:C (cP dst (.int .i64 m) E) (arr ao n cap e aY (l2 ++l.drop m)::L')):aB P Q N ⟨dst, .call ⟨.builtin .copy, #[x,y], #[t,t]⟩,ty,pos,aft,g⟩ E L C:=fun K hK A w hS hM=>by
 have hM':=hM.take hm;obtain⟨hown,hln⟩:=fV.1 (hM.has hm);obtain⟨hrow,hl2⟩:=hr w (hM'.sub (List.sublist_cons_self _ _));obtain⟨xi,z,h3,h4, -⟩:=(cI he).info;have hi:(P.info? e).map (·.size)=some 1:=by rw[h3];simp[h4,hs2]
 have hmx:=hrow.2.1;subst hs2
 by_cases h0:m=0
 ·subst h0;have hrun:=run_copy_none (P:=P) w t t ty e ao xo n cap 0 c (cI ht).slice hi aW;obtain rfl:l2=[]:=qC hl2;unfold Oper.wp;have hr':(execOp A.eval ⟨dst, .call ⟨.builtin .copy, #[x,y], #[t,t]⟩,ty,pos,aft,g⟩).run P w= .ok (.value (goInt 0)) w:=by
   simp only[execOp,resolve,invoke,builtin,Sem.run_bind,Sem.run_pure,Result.andThen_ok,List.map_toArray,fI,m9,hS.ev hx,hS.ev hy,hrun]
  rw[hr'];refine hK _ _ k _ _ (hS.put _ hd) ?_;simpa using hM'
 ·have hcap0:0<cap:=by have:=hown.le;omega
  have hown1:=hown.own hcap0;obtain⟨q1,ao',cap',q2,q3,q4,q5,q6⟩:=id hown1;simp only[Value.slice.injEq]at q2;obtain⟨rfl, -,rfl⟩:=q2
  cases ao with
  |none=>exact absurd (q5 rfl) aA
  |some ad=>
  obtain⟨sp, -,cur,q8,q9,q10⟩:=q6 _ rfl;obtain⟨gb,o,sq⟩:=ad;simp only at sp q8 q9 q10;subst sp;obtain⟨-, -,xo',c',p2,p3,p4⟩:=hrow;simp only[Value.slice.injEq]at p2;obtain⟨rfl, -,rfl⟩:=p2;obtain⟨sb,so,rfl,p5⟩:=p4 aA;have hcs:(l2.flatMap aY).length=m:=by rw[tS];simp[hl2,sz,aY]
  have hsz:sz aY=1:=rfl;rw[hsz]at q9 q10 p5;simp only[Nat.mul_one]at q9 q10 p5;have hrun:=run_copy_cells (P:=P) w t t ty e gb o n cap ⟨sb,so,none⟩ m c (l2.flatMap aY) (cI ht).slice hi (by rw[hcs];exact(Nat.min_eq_left hmn).symm)
   (fun j v hj=>by
    have hjl:=(rE.1 hj).1;rw[Addr.tJ,p5 j aA];exact hj)
   (fun j hj=>by rw[hcs]at hj;rw[q8.cell];have:o+j<cur.size:=y7 aA q9;simp[this]) (fun j hj=>q8.free _) (fun v hv=>UO aY l2 v hv)
  unfold Oper.wp;have hr':(execOp A.eval ⟨dst, .call ⟨.builtin .copy, #[x,y], #[t,t]⟩,ty,pos,aft,g⟩).run P w= .ok (.value (goInt (l2.flatMap aY).length)) (w.setCells gb o (l2.flatMap aY)):=by
   simp only[execOp,resolve,invoke,builtin,Sem.run_bind,Sem.run_pure,Result.andThen_ok,List.map_toArray,fI,m9,hS.ev hx,hS.ev hy,hrun]
  rw[hr',hcs];have hb2:=q8.setCells (l2.flatMap aY) o aA;refine hK _ _ k _ _ (hS.put _ hd) (hM'.s6 (cB.setCells (S:=fun c=>c=gb) _ _ (cB.refl _ _) (fun _=>rfl)) dU (fun c hc _=>gG.2 ⟨by rw[hc];rfl,hcap0⟩) (fV.2 ⟨jW.of ?_,by simp;omega⟩) (fun c hc=> .inl (gG.2 (gG.1 hc))));refine⟨by rw[tS,Jl,fM,hl2,hln];congr 1;omega,_,cap,rfl,q3,q4,(fun h=>by cases h),fun ad cG=>?_⟩
  cases cG
  refine⟨rfl,bQ _,_,hb2,?_,?_⟩
  ·simp only[List.size_toArray,Jl,jM,fM,Array.length_toList,hsz,hcs];omega
  ·simp only[hsz,Nat.mul_one];rw[r8];have e1:(l.drop m).flatMap aY=((cur.toList.drop o).take n).drop m:=by
    rw[q10];have:=KA (f:=aY) l m;rw[←this,hsz,Nat.mul_one]
   rw[e1];have hcl:o≤cur.toList.length:=by simp;omega
   rw[Jt];rw[show List.drop o (cur.toList.take o ++(l2.flatMap aY ++cur.toList.drop (o+(l2.flatMap aY).length)))=l2.flatMap aY ++cur.toList.drop (o+(l2.flatMap aY).length) by
    rw[List.drop_append_of_le_length (by simp;omega),iS (by simp;omega)];rfl]
   rw[List.take_append,hcs,kN aA];congr 1;rw[List.drop_take,List.drop_drop]
theorem aB.aAp{t e:TypeId}{x y:Operand}{ao xo:Option Addr}{n cap m c s' b' s2 b2:Nat}{d2:dO}{z' z2:List Value}{l l2:List Int}{C:Env→List Chunk→Prop}
  (hx:ev E x=some (.slice ao n cap):=by exact rfl) (hy:ev E y=some (.slice xo m c):=by exact rfl) (ht:bB P t=some ⟨.slice e,s',b',z'⟩:=by exact rfl) (he:bB P e=some ⟨d2,s2,b2,z2⟩:=by exact rfl) (hs2:s2=1:=by exact rfl) (hm:Take (arr ao n cap e aY l) L L':=by((repeat(first|exact Take.head|apply Take.tail));first|done|fail)) (hr:bY L' xo m c aY l2:=by exact Jr) (hmn:m≤n:=by omega) (hd:cR N dst=true:=by exact rfl)
  (k:C (cP dst (.int .i64 m) E) (arr ao n cap e aY (l2 ++l.drop m)::L')):aB P Q N ⟨dst, .call ⟨.builtin .copy, #[x,y], #[t,t]⟩,ty,pos,aft,g⟩ E L C:=aB.aAo hx hy ht he hs2 hm hr hmn hd k
section
variable{α:Type}{iα:Inhabited α}{ao:Option Addr}{n cap:Nat}{e:TypeId}{f:α→List Value}{ef:bH f}{l:List α}
theorem aB.aBD{t:TypeId}{s' b' s2 b2 lo hi:Nat}{d2:dO}{z' z2:List Value}{x:Operand}{ol oh:Option Operand}{C:Env→List Chunk→Prop}(hx:ev E x=some (.slice ao n cap))(ht:bB P t=some ⟨.slice e,s',b',z'⟩)(he:bB P e=some ⟨d2,s2,b2,z2⟩)
  (hr:bY L ao n cap f l) (hs2:s2=sz f) (hb:eB E n ol oh lo hi) (h1:lo≤hi) (h2:hi≤n) (hd:cR N dst=true)
  (k:∀ao' cap',(∀L'':List Chunk,bY L'' ao n cap f l→bY L'' ao' (hi-lo) cap' f ((l.take hi).drop lo))→C (cP dst (.slice ao' (hi-lo) cap') E) L):aB P Q N ⟨dst, .slice t x ol oh none,ty,pos,aft,g⟩ E L C:=fun K hK A w hS hM=>by
 obtain⟨hrow,hln⟩:=hr w hM;have hcap:n≤cap:=by
  obtain⟨-, -,ao',cap',g2,g3, -⟩:=hrow;simp only[Value.slice.injEq]at g2;obtain⟨-, -,rfl⟩:=g2;exact g3
 unfold Oper.wp;rw[DI hS hx ht he hb h1 aA w];subst hs2;exact hK _ _ (k _ _ (fun L'' hr' w' hM'=>⟨Row.sub (hr' w' hM').1 (hr' w' hM').2 h1 h2,by simp;omega⟩)) _ _ (hS.put _ hd) hM
end
theorem Still.aCU{x y:Operand}{k:IntKind}{a b z:Int}{tt:TypeId}(hx:ev E x=some (.int k a))(hy:ev E y=some (.int k b))(hz:(if b<a then b else a)=z):Still P N ⟨dst, .call ⟨.builtin .min, #[x,y], #[tt,tt]⟩,ty,pos,aft,g⟩ E L (.int k z):=fun A w hs _=>by
 subst hz;simp[execOp,resolve,invoke,builtin,hs.ev hx,hs.ev hy,Builtin.min_,Builtin.min2]
theorem Still.imax{x y:Operand}{k:IntKind}{a b z:Int}{tt:TypeId}(hx:ev E x=some (.int k a))(hy:ev E y=some (.int k b))(hz:(if a<b then b else a)=z):Still P N ⟨dst, .call ⟨.builtin .max, #[x,y], #[tt,tt]⟩,ty,pos,aft,g⟩ E L (.int k z):=fun A w hs _=>by
 subst hz;simp[execOp,resolve,invoke,builtin,hs.ev hx,hs.ev hy,Builtin.max_,Builtin.max2]
theorem aB.Q8{α:Type}{iα:Inhabited α}{ao:Option Addr}{n cap:Nat}{e:TypeId}{f:α→List Value}{ef:bH f}{l:List α}{t:TypeId}{s' b' s2 b2 lo hi:Nat}{d2:dO}{z' z2:List Value}{x:Operand}{ol oh:Option Operand}{C:Env→List Chunk→Prop}(hx:ev E x=some (.slice ao n cap):=by exact rfl)(ht:bB P t=some ⟨.slice e,s',b',z'⟩:=by exact rfl)(he:bB P e=some ⟨d2,s2,b2,z2⟩:=by exact rfl)
  (hr:bY L ao n cap f l:=by exact Jr) (hs2:s2=sz f:=by exact rfl) (hb:eB E n ol oh lo hi:=by(first|exact eB.all|(apply eB.lo;exact rfl;(first|exact gT _|exact(rfl:(0:Int)=((0:Nat):Int))|exact rfl|(refine(oJ ?_).symm;omega)))|(apply eB.hi;exact rfl;(first|exact gT _|exact(rfl:(0:Int)=((0:Nat):Int))|exact rfl|(refine(oJ ?_).symm;omega)))|(apply eB.both;exact rfl;(first|exact gT _|exact(rfl:(0:Int)=((0:Nat):Int))|exact rfl|(refine(oJ ?_).symm;omega));exact rfl;(first|exact gT _|exact(rfl:(0:Int)=((0:Nat):Int))|exact rfl|(refine(oJ ?_).symm;omega))))) (h1:lo≤hi:=by omega) (h2:hi≤n:=by omega) (hd:cR N dst=true:=by exact rfl)
  (k:∀ao' cap',(∀L'':List Chunk,bY L'' ao n cap f l→bY L'' ao' (hi-lo) cap' f ((l.take hi).drop lo))→C (cP dst (.slice ao' (hi-lo) cap') E) L):aB P Q N ⟨dst, .slice t x ol oh none,ty,pos,aft,g⟩ E L C:=aB.aBD hx ht he hr hs2 hb h1 h2 hd k
end
end
namespace Vw
open Go.RowKit Img
section
attribute [local irreducible] aE aG End aB Still aN aU RunT Fn aS
structure Sk where
 sb:Nat
 lb:Nat
 l:List Int
 live:Nat
instance:Inhabited Sk:=⟨⟨0,0,[],0⟩⟩
structure Sk.Ok(k:Sk):Prop where
 live:k.live≤k.l.length
 lo:8≤k.l.length
 hi:k.l.length≤400
abbrev Sk.ws(k:Sk):List Int:=k.l.take k.live
abbrev nN(k:Sk):List Value:=[.slice (some ⟨k.lb,0,none⟩) k.l.length k.l.length, .int .i64 k.live, .int .i64 8, .int .i64 400]
abbrev iQ(k:Sk):List Chunk:=[aF k.sb (nN k) 236,arr (some ⟨k.lb,0,none⟩) k.l.length k.l.length 2 aY k.l]
theorem FX(k:Sk):Fn Tryz.prog 103 #[ptr k.sb] [] (iQ k) (σ:=Unit) (fun _=>True) (fun _=> .int .i64 k.live) (fun _=>iQ k):=by
 refine JE [ptr k.sb] Tryz.func103 Tryz.ntmps103 fun w S=>?_;refine aD ?_;exact fZ ()
theorem H7(k:Sk)(i:Nat)(hi:i<k.l.length)(h4:k.l.length≤400):Fn Tryz.prog 62 #[ptr k.sb, .int .i64 i] [] (iQ k) (σ:=Unit) (fun _=>True) (fun _=> .pointer (place (sz aY) (some ⟨k.lb,0,none⟩) i 0)) (fun _=>iQ k):=by
 refine JE [ptr k.sb, .int .i64 i] Tryz.func62 Tryz.ntmps62 fun w S=>?_;refine aD ?_;exact fZ ()
theorem W6(k:Sk)(hk:k.Ok)(n:Nat)(h1:k.live≤n)(h8:8≤n)(h4:n≤400):Fn Tryz.prog 140 #[ptr k.sb, .int .i64 n] [] (iQ k) (σ:=Nat) (fun _=>True) (fun _=> .tuple #[]) (fun b=>iQ ⟨k.sb,b,k.ws ++List.replicate (n-k.live) 0,k.live⟩):=by
 obtain⟨g1,g2,g3⟩:=hk;obtain⟨sb,lb,l,live⟩:=k;simp only at *;refine JE [ptr sb, .int .i64 n] Tryz.func140 Tryz.ntmps140 fun w S=>?_;refine aD ?_;apply aE.op aV;refine aB.F5 (f:=aY) (iα:=inferInstance) (ef:=inferInstance) (z:=0) (n:=n) (k:=?_);intro nb;refine aD ?_;refine b8 10 [aF sb [.slice (some ⟨lb,0,none⟩) l.length l.length, .int .i64 live, .int .i64 8, .int .i64 400] 236] 11 ?_;refine bR [0,1,2,3,4,5,6,7,8] ?_;refine JT 9 ?_;refine aB.Q8 (f:=aY) (e:=2) (l:=l) (k:=?_);intro ao' cap' hcut;refine JG ?_;refine JT 10 ?_;refine aB.aAp (l:=List.replicate n 0) (l2:=(l.take live).drop 0) (m:=live-0) (hr:=hcut _ (by exact Jr)) (k:=?_);refine JG ?_;refine b6 ?_;refine aD ?_;have e1:(l.take live).drop 0 ++(List.replicate n (0:Int)).drop (live-0)=l.take live ++List.replicate (n-live) 0:=aW;rw[e1];have e2:(l.take live ++List.replicate (n-live) 0).length=n:=by simp;omega
 refine End.dL nb (ht:=by rw[show iQ ⟨sb,nb,(⟨sb,lb,l,live⟩:Sk).ws ++List.replicate (n-live) 0,live⟩=[aF sb [.slice (some ⟨nb,0,none⟩) n n, .int .i64 live, .int .i64 8, .int .i64 400] 236,arr (some ⟨nb,0,none⟩) n n 2 aY (l.take live ++List.replicate (n-live) 0)] by simp only[iQ,nN,Sk.ws,e2]];exact cA) (hp:=trivial)
structure pG(k k':Sk)(xs:List Int):Prop where
 ok:k'.Ok
 sb:k'.sb=k.sb
 ws:k'.ws=xs
 live:k'.live=xs.length
theorem XR{a b:List Int}{n:Nat}(h:a.length=n):(a ++b).take n=a:=by subst h;simp
theorem Sk.len{k:Sk}(h:k.Ok):k.ws.length=k.live:=by
 have:=h.live;simp;omega
set_option maxHeartbeats 1000000 in
theorem MT(k:Sk)(hk:k.Ok)(v:Int):Fn Tryz.prog 102 #[ptr k.sb, .int .i64 v] [] (iQ k) (σ:=Sk) (fun k'=>if k.live=400 then k'=k else pG k k' (k.ws ++[v])) (fun _=> .bool (!decide (k.live=400))) (fun k'=>iQ k'):=by
 have hwl:=Sk.len hk;obtain⟨g1,g2,g3⟩:=id hk;refine JE [ptr k.sb, .int .i64 v] Tryz.func102 Tryz.ntmps102 fun w S=>?_;refine Jn ?_
 by_cases h4:k.live=400
 ·refine aD ?_;refine End.aX k (he:=by rw[decide_eq_true h4];rfl) (hp:=?_);rw[if_pos h4]
 ·refine aG.imp (L':=aO w S::iQ k) (fun w hm=>hm) ?_;have key:∀(k2:Sk),k2.Ok→k2.sb=k.sb→k2.ws=k.ws→k2.live=k.live→k2.live<k2.l.length→pG k {k2 with l:=k2.l.set k2.live v,live:=k2.live+1} (k.ws ++[v]):=fun k2 a1 a2 a3 a4 a5=>by
   obtain⟨b1,b2,b3⟩:=a1;refine⟨⟨by simp;omega,by simpa using b2,by simpa using b3⟩,a2,?_,by simp;omega⟩;show(k2.l.set k2.live v).take (k2.live+1)=k.ws ++[v];rw[←a3];have hl:(k2.l.set k2.live v).length=k2.l.length:=aW;rw[Jp aA,List.getElem_set_self];congr 1;rw[List.take_set_of_le (bS _)]
  by_cases hf:k.live=k.l.length
  ·have hmin:(if(400:Int)<2*(k.l.length:Int)then 400 else 2*(k.l.length:Int))=((min (2*k.l.length) 400:Nat):Int):=by split<;>omega
   refine aD ?_;refine b8 12 [aF k.sb (nN k) 236] 13 ?_;refine bR [0,1,2,3,4,5,6,7,8,9,10] ?_;refine RunT.s4 11 (hy:=by exact Still.aCU rfl rfl hmin) (h:=?_);refine lN 12 (W6 k hk (min (2*k.l.length) 400) aA aA aA) fun s hs=>?_;obtain⟨k2,e2⟩:∃k2:Sk,k2=⟨k.sb,s,k.ws ++List.replicate (min (2*k.l.length) 400-k.live) 0,k.live⟩:=⟨_,rfl⟩;have hk2l:k2.l.length=min (2*k.l.length) 400:=by rw[e2];simp at hwl⊢;omega
   have hk2:=key k2 ⟨by rw[hk2l,e2];simp only;omega,aA,aA⟩ (by rw[e2]) (by rw[e2];exact XR hwl) (by rw[e2]) (by rw[hk2l,e2];simp only;omega);have hlv:k2.live<k2.l.length:=by rw[hk2l,e2];simp only;omega
   rw[←e2];have e2b:s=k2.lb:=by rw[e2]
   have e2l:k.ws ++List.replicate (min (2*k.l.length) 400-k.live) 0=k2.l:=by rw[e2]
   rw[e2b,e2l];have hsb:k.sb=k2.sb:=by rw[e2]
   have hok2:k2.live≤400:=by rw[e2];simp only;omega
   rw[hsb];refine b6 ?_;refine aD ?_;(apply aE.op;exact rfl;refine aB.j5 (f:=aY) (l:=k2.l) (i:=k2.live) (off:=0) (vs:=[.int .i64 v]) (a':=v) (k:=?_));refine aD ?_;have hle:(k2.l.set k2.live v).length=k2.l.length:=Ji;refine End.aX ({k2 with l:=k2.l.set k2.live v,live:=k2.live+1}:Sk) (he:=by rw[decide_eq_false h4];rfl) (ht:=by(simp only[iQ,nN,hle];exact cA)) (hp:=?_);rw[if_neg h4];exact hk2
  ·have hk2:=key k hk rfl rfl rfl aA;refine aD ?_;(apply aE.op;exact rfl;refine aB.j5 (f:=aY) (l:=k.l) (i:=k.live) (off:=0) (vs:=[.int .i64 v]) (a':=v) (k:=?_));refine aD ?_;have hle:(k.l.set k.live v).length=k.l.length:=Ji;refine End.aX ({k with l:=k.l.set k.live v,live:=k.live+1}:Sk) (he:=by rw[decide_eq_false h4];rfl) (ht:=by(simp only[iQ,nN,hle];exact cA)) (hp:=?_);rw[if_neg h4];exact hk2
set_option maxHeartbeats 1000000 in
theorem MS(k:Sk)(hk:k.Ok)(n:Nat)(hn:n≤k.live):Fn Tryz.prog 104 #[ptr k.sb, .int .i64 n] [] (iQ k) (σ:=Sk) (fun k'=>pG k k' (k.ws.take (k.live-n))) (fun _=> .tuple #[]) (fun k'=>iQ k'):=by
 have hwl:=Sk.len hk;obtain⟨g1,g2,g3⟩:=id hk;have q4:IntKind.i64.wrap ((k.l.length:Int).tdiv 4)=((k.l.length/4:Nat):Int):=by rw[D9 aA,dX aA];omega
 have q2:IntKind.i64.wrap ((k.l.length:Int).tdiv 2)=((k.l.length/2:Nat):Int):=by rw[D9 aA,dX aA];omega
 have s1:IntKind.i64.wrap ((k.live:Int)-(n:Int))=((k.live-n:Nat):Int):=by rw[dX aA];omega
 obtain⟨k1,e1⟩:∃k1:Sk,k1=⟨k.sb,k.lb,k.l,k.live-n⟩:=⟨_,rfl⟩;have hk1:pG k k1 (k.ws.take (k.live-n)):=⟨by rw[e1];exact⟨by simp only;omega,g2,g3⟩,by rw[e1],by rw[e1];simp only[Sk.ws,List.take_take];congr 1;omega,by rw[e1];simp;omega⟩;have hl1:k1.l.length=k.l.length:=by rw[e1]
 have hv1:k1.live=k.live-n:=by rw[e1]
 refine JE [ptr k.sb, .int .i64 n] Tryz.func104 Tryz.ntmps104 fun w S=>?_;refine Jn ?_
 by_cases h4:k.live-n≤k.l.length/4
 ·by_cases h8:8<k.l.length
  ·have hmax:(if((k.l.length/2:Nat):Int)<8 then 8 else((k.l.length/2:Nat):Int))=((max (k.l.length/2) 8:Nat):Int):=by split<;>omega
   refine aD ?_;refine b8 12 [aF k.sb [.slice (some ⟨k.lb,0,none⟩) k.l.length k.l.length, .int .i64 ((k.live-n:Nat):Int), .int .i64 8, .int .i64 400] 236] 13 ?_;refine bR [0,1,2,3,4,5,6,7,8,9,10] ?_;refine RunT.s4 11 (hy:=by exact Still.imax rfl rfl hmax) (h:=?_);have e2:k1.sb=k.sb:=by rw[e1]
   have e3:k1.lb=k.lb:=by rw[e1]
   have e4:k1.l=k.l:=by rw[e1]
   rw[←hv1,←e2,←e3,←e4];refine lN 12 (W6 k1 hk1.ok (max (k1.l.length/2) 8) aA aA aA) fun s hs=>?_;refine b6 ?_;refine aD ?_;have hlen:k1.ws.length=k1.live:=Sk.len hk1.ok;refine End.dL (⟨k1.sb,s,k1.ws ++List.replicate (max (k1.l.length/2) 8-k1.live) 0,k1.live⟩:Sk) (hp:=?_);rw[←hv1]at hk1;exact⟨⟨by simp;omega,by simp;omega,by simp;omega⟩,hk1.sb,by rw[←hk1.ws];exact XR hlen,hk1.live⟩
  ·refine aD ?_;refine End.dL (⟨k.sb,k.lb,k.l,k.live-n⟩:Sk) (hp:=?_);rw[←e1];exact hk1
 ·refine aD ?_;refine End.dL (⟨k.sb,k.lb,k.l,k.live-n⟩:Sk) (hp:=?_);rw[←e1];exact hk1
theorem aIU(k:Sk)(hk:k.Ok):Fn Tryz.prog 141 #[ptr k.sb] [] (iQ k) (σ:=Option Addr×Nat) (fun _=>True) (fun s=> .slice s.1 k.live s.2) (fun s=>arr s.1 k.live s.2 2 aY k.ws::iQ k):=by
 have hwl:=Sk.len hk;obtain⟨g1,g2,g3⟩:=id hk;refine JE [ptr k.sb] Tryz.func141 Tryz.ntmps141 fun w S=>?_;refine Jn ?_;apply aG.kH;apply aG.region;(apply aE.op;exact rfl;refine aB.bP (k:=?_));apply aE.nil;apply End.kH;apply aG.kH;apply aG.imp (fun w hm=>hm.cU 2 aY);apply aG.draw 9 (iQ k) b7 11 rfl;refine bR [0,1,2,3,4,5,6,7] ?_;refine JT 8 ?_;refine aB.Q8 (f:=aY) (e:=2) (l:=k.l) (k:=?_);intro ao' cap' hcut;refine JG ?_;refine JT 9 ?_;refine aB.xJ (l:=[]) (l2:=k.ws) (hr:=hcut _ (by exact Jr)) (k:=?_);intro ao2 cap2;refine JG ?_;rw[show 0+(k.live-0)=k.live by omega,Jk];refine RunT.uD 10 (h:=aB.bP (k:=And.intro xU ?_));refine b6 ?_;refine aD ?_;refine End.aX (ao2,cap2) (he:=by rfl) (hp:=trivial)
theorem aDj:Fn Tryz.prog 101 #[.int .i64 8, .int .i64 400] [] [] (σ:=Sk) (fun k=>k.Ok∧k.ws=[]∧k.live=0) (fun k=>ptr k.sb) (fun k=>iQ k):=by
 refine JE [.int .i64 8, .int .i64 400] Tryz.func101 Tryz.ntmps101 fun w S=>?_;refine aD ?_;apply aE.op aV;refine aB.F5 (f:=aY) (iα:=inferInstance) (ef:=inferInstance) (z:=0) (n:=8) (k:=?_);intro nb
 repeat(refine Jy ?_;try intro b)
 refine End.aX (⟨b,nb,List.replicate 8 0,0⟩:Sk) (he:=by rfl) (hp:=?_);exact⟨⟨aW,aW,aW⟩,rfl,rfl⟩
end
end Vw
end Go.Proofs.YtofckcabpchcmaaGreatDoor
