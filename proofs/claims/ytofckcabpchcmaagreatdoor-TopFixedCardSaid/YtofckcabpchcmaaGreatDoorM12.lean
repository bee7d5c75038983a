/- Solo's boxes keep their types; what a task puts out, sends and takes only grows. Plain Lean. -/
import Derived.Test.YtofckcabpchcmaaGreatDoorM11
import Derived.Laws.IdiomCopy
set_option linter.unusedVariables false
set_option linter.unusedSimpArgs false
set_option linter.unusedSectionVars false
set_option maxRecDepth 100000
namespace Go.Proofs.YtofckcabpchcmaaGreatDoor
namespace Vm
open ImgM Ver Opt
theorem Z6{M:aG}(h:verify M= .ok)(hG:∀k,k<M.aL.length→Ver.Good M (M.aL.getD k default))(h64:∀k,k<M.aL.length→∀i∈(bD M k).code,bG i.n∧bG i.a):∃T,dF M T:=by
 have hR:=AG.1 h;have hF:=hR.form;have key:∀k,∃τ,k<M.aL.length→Cert M (bD M k) τ∧∀p s,τ p=some s→s.1.length≤300∧s.2.length=(bD M k).locals.length:=fun k=>by
  by_cases hk:k<M.aL.length
  ·obtain⟨g1,g2⟩:=hF.aL _ (WY hk);have hh:(M.aL.getD k default).params.toNat≤(M.aL.getD k default).locals.length:=by
    have g1':head M (M.aL.getD k default)=0:=g1;unfold head at g1';generalize M.aL.getD k default=u at *
    by_cases e1:u.kind≠2∧u.kind≠3∧u.kind≠4
    ·rw[if_pos e1]at g1';cases g1'
    rw[if_neg e1]at g1'
    by_cases e2:200<u.locals.length∨u.params<0∨6<u.params∨(u.locals.length:Int)<u.params∨(u.kind=4∧0<u.params)
    ·rw[if_pos e2]at g1';cases g1'
    omega
   obtain⟨τ,h1,h2⟩:=Z5 (hG k hk) hh (aBi g1).1 (hR.code k hk);exact⟨τ,fun _=>⟨h1,h2⟩⟩
  ·exact⟨fun _=>none,fun h=>absurd h hk⟩
 refine⟨fun k=>Classical.choose (key k),hF,h64,fun q hq=>(Classical.choose_spec (key q) hq).1,fun q p s hq hs=>((Classical.choose_spec (key q) hq).2 p s hs).2⟩
def Typed(t:Int)(l:List Int):Prop:=t=2→∀v∈l,v=0∨v=1
structure AY(M:aG)(F:List (List Int))(s:Ls):Prop where
 bX:s.bX.length=M.boxes.length
 bM:s.bM.length=M.boxes.length
 le:∀b,b<M.boxes.length→s.bX.getD b 0≤(F.getD b []).length
 gK:∀b,b<M.boxes.length→Typed (M.boxes.getD b default).1 (s.bM.getD b [])
structure sH(M:aG)(F:List (List Int)):Prop where
 len:F.length=M.boxes.length
 iJ:∀l∈F,∀v∈l,bG v
 gK:∀b,b<M.boxes.length→Typed (M.boxes.getD b default).1 (F.getD b [])
theorem rP{l:List (List Int)}{k j:Nat}{v:List Int}(hk:k<l.length):(l.set k v).getD j []=if k=j then v else l.getD j []:=by
 simp only[Jd,pI]
 by_cases h:k=j
 ·subst h;simp[hk]
 ·simp[h]
theorem Q9{l:List Nat}{k j:Nat}{v:Nat}(hk:k<l.length):(l.set k v).getD j 0=if k=j then v else l.getD j 0:=by
 simp only[Jd,pI]
 by_cases h:k=j
 ·subst h;simp[hk]
 ·simp[h]
theorem aBH{l:List Int}{k:Nat}(h:k<l.length):l.getD k 0∈l:=by
 rw[Jd,Je h];exact fB h
theorem IM{l:List (List Int)}{k:Nat}(h:k<l.length):l.getD k []∈l:=by
 rw[Jd,Je h];exact fB h
theorem KL{M:aG}{F:List (List Int)}(hF:sH M F):mP (lists F) M (AY M F):=by
 refine⟨fun s b hK hb he=>?_,fun s b v hK hb _ hv ht=>?_,fun s e hK=>hK⟩
 ·have hlt:s.bX.getD b 0<(F.getD b []).length:=by
   have:=hK.le b hb;have he':decide (s.bX.getD b 0=(F.getD b []).length)=false:=he;rw[JY]at he';omega
  have hm:=aBH hlt;refine⟨⟨by simp[lists,hK.bX],hK.bM,fun j hj=>?_,hK.gK⟩,hF.iJ _ (IM (by rw[hF.len];exact hb)) _ hm,fun h2=>hF.gK b hb h2 _ hm⟩;show(s.bX.set b (s.bX.getD b 0+1)).getD j 0≤_;rw[Q9 (by rw[hK.bX];exact hb)]
  split
  ·rename_i e;subst e;omega
  ·exact hK.le j hj
 ·refine⟨hK.bX,by simp[lists,hK.bM],hK.le,fun j hj=>?_⟩;show Typed _ ((s.bM.set b (s.bM.getD b [] ++[v])).getD j []);rw[rP (by rw[hK.bM];exact hb)]
  split
  ·rename_i e;subst e
   intro h2 x hx;rcases dH.1 hx with hx|hx
   ·exact hK.gK b hb h2 x hx
   ·simp at hx;subst hx;exact ht h2
  ·exact hK.gK j hj
theorem oS{α:Type}(n k:Nat)(a:α):(List.replicate n a).getD k a=a:=by
 rw[Jd,List.getElem?_replicate]
 split<;>rfl
theorem SQ(M:aG)(F:List (List Int))(hF:sH M F):AY M F (Ls.new F.length):=by
 refine⟨by simp[Ls.new,hF.len],by simp[Ls.new,hF.len],fun b hb=>?_,fun b hb=>?_⟩
 ·show(List.replicate _ 0).getD b 0≤_;rw[oS];exact bP _
 ·show Typed _ ((List.replicate _ []).getD b []);rw[oS];intro _ v hv;cases hv
section
variable{M:aG}{T:Nat→Int→Option Shape}{ν:Type}{V:Env ν}{K:ν→Prop}
theorem I2(hC:dF M T)(hV:mP V M K):∀(n:Nat) {r:Tk×ν},Good M T K r→Good M T K (goN V M n r).2
 |0,r,h=>h
 |n+1,r,h=>by
  unfold goN;have hs:=F3 hC hV h
  split
  ·exact I2 hC hV n hs
  ·exact hs
theorem I3:∀(n:Nat) (r:Tk×ν),(goN V M n r).1≤n
 |0,r=>cG _
 |n+1,r=>by
  unfold goN
  split
  ·have:=I3 n (step V M r).2;simp only;omega
  ·exact bP _
end
end Vm
section
open Go
section
variable{P:Program}{Q:Exit→Act→World→Prop}{N:Nd}{E:Env}{L L':List Chunk}
variable{dst:Option Tmp}{ty:TypeId}{pos:String}{aft:Array Edge}{g:Option (Nat×Bool)}
def vT(P:Program)(T:TypeId)(rv:Value)(name:String)(f:FuncId):Prop:=∀w,(method (P.types.size+Made.depth) T rv name).run P w= .ok (f,rv) w
theorem aA.ZV{σ:Type}{x:Operand}{name:String}{args:List Operand}{dW:Array TypeId}{T:TypeId}{rv:Value}{f:FuncId}{vs:List Value}
  {R pre F:List Chunk} {post:σ→Prop} {val:σ→Value} {mem:σ→List Chunk} {C:Env→List Chunk→Prop}
  (hx:ev E x=some (.iface T rv)) (hv:fX E args vs) (hm:vT P T rv name f) (hc:fM P f=true) (hd:cF N dst=true)
  (spec:Fn P f (rv::vs).toArray R pre post val mem) (t:aQ pre L F) (r:∀w,Reads w R F) (k:∀s,post s→C (cD dst (val s) E) (mem s ++F)):
  aA P Q N ⟨dst, .call ⟨.invoke x name,args.toArray,dW⟩,ty,pos,aft,g⟩ E L C:=by
 intro K hK a w hs hM;have hr:(execOp a.eval ⟨dst, .call ⟨.invoke x name,args.toArray,dW⟩,ty,pos,aft,g⟩).run P w= .ok (.enter f (rv::vs).toArray) w:=by
  have e:args.toArray.map a.eval=vs.toArray:=by rw[←hs.mZ hv];simp
  have e2: #[Value.iface T rv] ++vs.toArray=(Value.iface T rv::vs).toArray:=by simp
  have e3:(Value.iface T rv::vs).toArray.extract 1 (Value.iface T rv::vs).toArray.size=vs.toArray:=by simp
  have e4:(Value.iface T rv::vs).toArray[0]?=some (Value.iface T rv):=by simp
  have hm':=hm w;simp only[execOp,resolve,hs.ev hx,e,e2,Sem.run_bind,Sem.run_pure,Result.andThen_ok,invoke,e4,e3,callMethod,run_program,hm'];rw[xC hc];simp
 unfold Oper.wp;rw[hr,Oper.upon_enter];refine(spec w ((hM.aS t).reads (r w))).mono ?_;rintro e w' ⟨s,hp,rfl,hx,hm'⟩;exact hK _ _ (k s hp) _ _ (hs.put _ hd) ((hM.aS t).frame hm' hx)
theorem Still.aCr{xT t:TypeId}{x:Operand}{v:Value}{s b:Nat}{z:List Value}{e:TypeId} [eP P](hx:ev E x=some v)(ht:aW P xT=some ⟨.pointer e,s,b,z⟩):
  Still P N ⟨dst, .makeInterface xT x,ty,pos,aft,g⟩ E L (.iface xT v):=fun A w hs _=>by
 have:=(b7 ht).pointer;simp[execOp,hs.ev hx,Instr.makeInterface,run_underlying this]
theorem Still.aCs{xT t:TypeId}{x:Operand}{v:Value}{s b:Nat}{z:List Value}{e:TypeId} [eP P](hx:ev E x=some v)(ht:aW P xT=some ⟨.slice e,s,b,z⟩):
  Still P N ⟨dst, .makeInterface xT x,ty,pos,aft,g⟩ E L (.iface xT v):=fun A w hs _=>by
 have:=(b7 ht).slice;simp[execOp,hs.ev hx,Instr.makeInterface,run_underlying this]
theorem aA.DN{σ:Type}{x:Operand}{name:String}{args:List Operand}{dW:Array TypeId}{T:TypeId}{rv:Value}{f:FuncId}{vs:List Value}
  {R pre F:List Chunk} {post:σ→Prop} {val:σ→Value} {mem:σ→List Chunk} {C:Env→List Chunk→Prop}
  (hm:vT P T rv name f) (hc:fM P f=true) (spec:Fn P f (rv::vs).toArray R pre post val mem)
  (hx:ev E x=some (.iface T rv):=by exact rfl) (hv:fX E args vs:=by exact m4) (hd:cF N dst=true:=by exact rfl)
  (t:aQ pre L F:=by exact aK) (r:∀w,Reads w R F:=by intro w;exact CI) (k:∀s,post s→C (cD dst (val s) E) (mem s ++F)):
  aA P Q N ⟨dst, .call ⟨.invoke x name,args.toArray,dW⟩,ty,pos,aft,g⟩ E L C:=aA.ZV hx hv hm hc hd spec t r k
end
structure Rw where
 o:Option Addr
 c:Nat
 l:List Int
instance:Inhabited Rw:=⟨⟨none,0,[]⟩⟩
def cW(r:Rw):List Value:=[.slice r.o r.l.length r.c]
instance:bF cW:=⟨fun _=>rfl,by decide,fun a u hu=>by simp[cW]at hu;subst hu;rfl⟩
def eC(n:Nat):List Value:=[.int .i64 (n:Int)]
instance:bF eC:=⟨fun _=>rfl,by decide,fun a u hu=>by simp[eC]at hu;subst hu;rfl⟩
structure FL where
 o:Option Addr
 c:Nat
 l:List Rw
instance:Inhabited FL:=⟨⟨none,0,[]⟩⟩
abbrev FL.val(f:FL):Value:= .slice f.o f.l.length f.c
abbrev FL.ws(f:FL):List (List Int):=f.l.map (·.l)
theorem oT(l:List Rw)(k:Nat):(l.map (·.l)).getD k []=(l.getD k default).l:=by
 simp only[Jd,JU]
 cases l[k]?<;>rfl
structure sG(w:World)(f:FL):Prop where
 out:Row w (.slice f.o f.l.length f.c) (sz cW) f.l.length (f.l.flatMap cW)
 row:∀r∈f.l,Row w (.slice r.o r.l.length r.c) (sz aT) r.l.length (r.l.flatMap aT)
def C8(f:FL)(k:Nat):Prop:=
 ((Value.slice f.o f.l.length f.c).ownBlock=some k∧0<f.l.length)∨∃r∈f.l,(Value.slice r.o r.l.length r.c).ownBlock=some k∧0<r.l.length
theorem sG.oU{w w':World}{f:FL}(h:sG w f){S:Nat→Prop}(k:bV S w w')(hs:∀b,C8 f b→¬S b):sG w' f:=
 ⟨h.out.s5 bF.pos k (fun b h1 h2=>hs b (.inl ⟨h1,h2⟩)),fun r hr=>(h.row r hr).s5 bF.pos k (fun b h1 h2=>hs b (.inr ⟨r,hr,h1,h2⟩))⟩
theorem sG.lt{w:World}{f:FL}(h:sG w f):∀b,C8 f b→b<w.heap.size:=by
 rintro b (⟨h1,h2⟩|⟨r,hr,h1,h2⟩)
 ·exact h.out.s7 bF.pos h2 b h1
 ·exact(h.row r hr).s7 bF.pos h2 b h1
@[irreducible] def fd (f : FL) : Chunk where
 holds w:=sG w f
 cO:=C8 f
 bB:=false
 kY k hs h:=h.oU k hs
 lt h:=h.lt
theorem yF{w:World}{f:FL}:(fd f).holds w↔sG w f:=by unfold fd;exact Iff.rfl
theorem IL{f:FL}{k:Nat}:(fd f).cO k↔C8 f k:=by unfold fd;exact Iff.rfl
theorem m6{f:FL}:(fd f).bB=false:=by unfold fd;rfl
theorem MJ{l:List Rw}{k:Nat}(hk:k<l.length):l.getD k default∈l:=by
 rw[Jd,Je hk];exact fB hk
theorem sG.small{w:World}{f:FL}(h:sG w f):f.l.length≤9223372036854775807∧∀k,k<f.l.length→(f.l.getD k default).l.length≤9223372036854775807:=
 ⟨h.out.2.1,fun k hk=>(h.row _ (MJ hk)).2.1⟩
section
variable{f:FL}{L L':List Chunk}{w:World}
theorem Mem.yE(t:Take (fd f) L L')(h:Mem w L):Mem w (rd f.o f.l.length f.c cW f.l::L):=
 h.dup t fP (kA.2 ⟨(yF.1 (h.has t)).out,rfl⟩) (fun b hb=>IL.2 (.inl (j9.1 hb))) m6
theorem Mem.BG{k:Nat}(hk:k<f.l.length)(t:Take (fd f) L L')(h:Mem w L):Mem w (rd (f.l.getD k default).o (f.l.getD k default).l.length (f.l.getD k default).c aT (f.l.getD k default).l::L):=
 h.dup t fP (kA.2 ⟨(yF.1 (h.has t)).row _ (MJ hk),rfl⟩) (fun b hb=>IL.2 (.inr ⟨_,MJ hk,j9.1 hb⟩)) m6
end
abbrev gI(t:TypeId)(r:Rw):Chunk:=arr r.o r.l.length r.c t aT r.l
theorem U4(t:TypeId)(s u:List Rw)(r:Rw):((s ++r::u).map (gI t)).Perm (gI t r::(s ++u).map (gI t)):=by
 simp only[Jq,eG];exact uA
theorem Mem.U3{w:World}{L L':List Chunk}{t:TypeId}{s u:List Rw}{r:Rw}(h:Mem w L)(tk:Take (aR ((s ++r::u).map (gI t))) L L'):Mem w (gI t r::aR ((s ++u).map (gI t))::L'):=
 Mem.nO (ds:=[gI t r]) h tk (U4 t s u r)
theorem Mem.U2{w:World}{L L' F:List Chunk}{t:TypeId}{s u:List Rw}{r:Rw}(h:Mem w L)(tk:Take (aR ((s ++u).map (gI t))) L L')(t2:aQ [gI t r] L' F):Mem w (aR ((s ++r::u).map (gI t))::F):=
 Mem.mA (ds:=[gI t r]) h tk t2 (U4 t s u r) (fun c hc=>by simp at hc;subst hc;exact dX)
theorem MV{α:Type} [Inhabited α]{l:List α}{k:Nat}(h:k<l.length):∃s u,l=s ++l.getD k default::u∧s.length=k:=by
 refine⟨l.take k,l.drop (k+1),?_,by simp;omega⟩;rw[Jd,Je h,JZ,List.getElem_cons_drop,List.take_append_drop]
theorem CM{α:Type}(s u:List α)(a b:α):(s ++a::u).set s.length b=s ++b::u:=by
 rw[List.set_append_right _ _ (cG _),Nat.sub_self];rfl
theorem BJ{α:Type} [Inhabited α](s u:List α)(a:α):(s ++a::u).getD s.length default=a:=by
 simp[Jd]
section
variable{P:Program}{T:TypeId}{rv:Value}{name:String}{f:FuncId}
theorem uO{ptr:Bool}(hm:((P.info? T).bind (fun i=>i.methods.find? (·.name==name))).map (fun m=>(m.path.toList,m.func))=some ([],some (f,ptr)))
  (hr:∀w o,(receiverAt T (.val rv) ptr o).run P w= .ok rv w):vT P T rv name f:=by
 intro w;have hd:0<Made.depth:=by decide
 obtain⟨k,hk⟩:∃k,P.types.size+Made.depth=k+1:=⟨P.types.size+(Made.depth-1),by omega⟩;rw[hk]
 cases hi:P.info? T with
 |none=>rw[hi]at hm;cases hm
 |some i=>
  rw[hi]at hm;simp only[aU]at hm
  cases hj:i.methods.find? (·.name==name)with
  |none=>rw[hj]at hm;cases hm
  |some m=>
   rw[hj]at hm;simp only[a8,tY,wD]at hm;unfold method;rw[Sem.run_bind,run_typeInfo w hi,Result.andThen_ok];simp only[hj,hm.1,hm.2];simp[follow,hr]
theorem D0{e:TypeId}(hu:P.underlying T=some (.pointer e))(w:World)(o:Option String):(receiverAt T (.val rv) true o).run P w= .ok rv w:=by
 unfold receiverAt;rw[Sem.run_bind,run_underlying hu w,Result.andThen_ok];rfl
theorem D1{e:TypeId}(hu:P.underlying T=some (.slice e))(w:World)(o:Option String):(receiverAt T (.val rv) false o).run P w= .ok rv w:=by
 unfold receiverAt;rw[Sem.run_bind,run_underlying hu w,Result.andThen_ok];rfl
end
end
section
open Go Go.RowKit
section
variable{P:Program} [eP P]{Q:Exit→Act→World→Prop}{N:Nd}{E:Env}{L L':List Chunk}
variable{dst:Option Tmp}{ty:TypeId}{pos:String}{aft:Array Edge}{g:Option (Nat×Bool)}
theorem aA.aAK{t e:TypeId}{x y:Operand}{ao xo:Option Addr}{n cap m c s' b' s2 b2:Nat}{d2:cV}{z' z2:List Value}{l l2:List Int}{C:Env→List Chunk→Prop}
  (hx:ev E x=some (.slice ao n cap)) (hy:ev E y=some (.slice xo m c)) (ht:aW P t=some ⟨.slice e,s',b',z'⟩) (he:aW P e=some ⟨d2,s2,b2,z2⟩) (hs2:s2=1) (hm:Take (arr ao n cap e aT l) L L') (hr:bU L' xo m c aT l2) (hmn:m≤n) (hd:cF N dst=true)
  (k:C (cD dst (.int .i64 (m:Int)) E) (arr ao n cap e aT (l2 ++l.drop m)::L')):aA P Q N ⟨dst, .call ⟨.builtin .copy, #[x,y], #[t,t]⟩,ty,pos,aft,g⟩ E L C:=fun K hK A w hS hM=>by
 have hM':=hM.take hm;obtain⟨hown,hln⟩:=fH.1 (hM.has hm);obtain⟨hrow,hl2⟩:=hr w (hM'.sub (List.sublist_cons_self _ _));obtain⟨xi,z,h3,h4, -⟩:=(b7 he).info;have hi:(P.info? e).map (·.size)=some 1:=by rw[h3];simp[h4,hs2]
 have hmx:=hrow.2.1;subst hs2
 by_cases h0:m=0
 ·subst h0;have hrun:=run_copy_none (P:=P) w t t ty e ao xo n cap 0 c (b7 ht).slice hi (by simp);obtain rfl:l2=[]:=pE hl2;unfold Oper.wp;have hr':(execOp A.eval ⟨dst, .call ⟨.builtin .copy, #[x,y], #[t,t]⟩,ty,pos,aft,g⟩).run P w= .ok (.value (goInt 0)) w:=by
   simp only[execOp,resolve,invoke,builtin,Sem.run_bind,Sem.run_pure,Result.andThen_ok,List.map_toArray,eG,qE,hS.ev hx,hS.ev hy,hrun]
  rw[hr'];refine hK _ _ k _ _ (hS.put _ hd) ?_;simpa using hM'
 ·have hcap0:0<cap:=by have:=hown.le;omega
  have hown1:=hown.own hcap0;obtain⟨q1,ao',cap',q2,q3,q4,q5,q6⟩:=id hown1;simp only[Value.slice.injEq]at q2;obtain⟨rfl, -,rfl⟩:=q2
  cases ao with
  |none=>exact absurd (q5 rfl) (by omega)
  |some ad=>
  obtain⟨sp, -,cur,q8,q9,q10⟩:=q6 _ rfl;obtain⟨gb,o,sq⟩:=ad;simp only at sp q8 q9 q10;subst sp;obtain⟨-, -,xo',c',p2,p3,p4⟩:=hrow;simp only[Value.slice.injEq]at p2;obtain⟨rfl, -,rfl⟩:=p2;obtain⟨sb,so,rfl,p5⟩:=p4 (by omega);have hcs:(l2.flatMap aT).length=m:=by rw[sY];simp[hl2,sz,aT]
  have hsz:sz aT=1:=rfl;rw[hsz]at q9 q10 p5;simp only[Nat.mul_one]at q9 q10 p5;have hrun:=run_copy_cells (P:=P) w t t ty e gb o n cap ⟨sb,so,none⟩ m c (l2.flatMap aT) (b7 ht).slice hi (by rw[hcs];exact(Nat.min_eq_left hmn).symm)
   (fun j v hj=>by
    have hjl:=(tT.1 hj).1;rw[Addr.sS,p5 j (by omega)];exact hj)
   (fun j hj=>by rw[hcs]at hj;rw[q8.cell];have:o+j<cur.size:=vV (by omega) q9;simp[this]) (fun j hj=>q8.free _) (fun v hv=>TB aT l2 v hv)
  unfold Oper.wp;have hr':(execOp A.eval ⟨dst, .call ⟨.builtin .copy, #[x,y], #[t,t]⟩,ty,pos,aft,g⟩).run P w= .ok (.value (goInt (l2.flatMap aT).length)) (w.setCells gb o (l2.flatMap aT)):=by
   simp only[execOp,resolve,invoke,builtin,Sem.run_bind,Sem.run_pure,Result.andThen_ok,List.map_toArray,eG,qE,hS.ev hx,hS.ev hy,hrun]
  rw[hr',hcs];have hb2:=q8.setCells (l2.flatMap aT) o (by omega);refine hK _ _ k _ _ (hS.put _ hd) (hM'.sA (bV.setCells (S:=fun c=>c=gb) _ _ (bV.refl _ _) (fun _=>rfl)) dX (fun c hc _=>fS.2 ⟨by rw[hc];rfl,hcap0⟩) (fH.2 ⟨jC.of ?_,by simp;omega⟩) (fun c hc=> .inl (fS.2 (fS.1 hc))));refine⟨by rw[sY,Jl,fC,hl2,hln];congr 1;omega,_,cap,rfl,q3,q4,(fun h=>by cases h),fun ad fU=>?_⟩
  cases fU
  refine⟨rfl,bP _,_,hb2,?_,?_⟩
  ·simp only[List.size_toArray,Jl,lE,fC,Array.length_toList,hsz,hcs];omega
  ·simp only[hsz,Nat.mul_one];rw[AU];have e1:(l.drop m).flatMap aT=((cur.toList.drop o).take n).drop m:=by
    rw[q10];have:=IS (f:=aT) l m;rw[←this,hsz,Nat.mul_one]
   rw[e1];have hcl:o≤cur.toList.length:=by simp;omega
   rw[Jt];rw[show List.drop o (cur.toList.take o ++(l2.flatMap aT ++cur.toList.drop (o+(l2.flatMap aT).length)))=l2.flatMap aT ++cur.toList.drop (o+(l2.flatMap aT).length) by
    rw[List.drop_append_of_le_length (by simp;omega),lD (by simp;omega)];rfl]
   rw[List.take_append,hcs,pF (by omega)];congr 1;rw[List.drop_take,List.drop_drop]
theorem aA.aAL{t e:TypeId}{x y:Operand}{ao xo:Option Addr}{n cap m c s' b' s2 b2:Nat}{d2:cV}{z' z2:List Value}{l l2:List Int}{C:Env→List Chunk→Prop}
  (hx:ev E x=some (.slice ao n cap):=by exact rfl) (hy:ev E y=some (.slice xo m c):=by exact rfl) (ht:aW P t=some ⟨.slice e,s',b',z'⟩:=by exact rfl) (he:aW P e=some ⟨d2,s2,b2,z2⟩:=by exact rfl) (hs2:s2=1:=by exact rfl) (hm:Take (arr ao n cap e aT l) L L':=by((repeat(first|exact Take.head|apply Take.tail));first|done|fail)) (hr:bU L' xo m c aT l2:=by exact Jr) (hmn:m≤n:=by omega) (hd:cF N dst=true:=by exact rfl)
  (k:C (cD dst (.int .i64 (m:Int)) E) (arr ao n cap e aT (l2 ++l.drop m)::L')):aA P Q N ⟨dst, .call ⟨.builtin .copy, #[x,y], #[t,t]⟩,ty,pos,aft,g⟩ E L C:=aA.aAK hx hy ht he hs2 hm hr hmn hd k
section
variable{α:Type}{iα:Inhabited α}{ao:Option Addr}{n cap:Nat}{e:TypeId}{f:α→List Value}{ef:bF f}{l:List α}
theorem aA.aAX{t:TypeId}{s' b' s2 b2 lo hi:Nat}{d2:cV}{z' z2:List Value}{x:Operand}{ol oh:Option Operand}{C:Env→List Chunk→Prop}(hx:ev E x=some (.slice ao n cap))(ht:aW P t=some ⟨.slice e,s',b',z'⟩)(he:aW P e=some ⟨d2,s2,b2,z2⟩)
  (hr:bU L ao n cap f l) (hs2:s2=sz f) (hb:eF E n ol oh lo hi) (h1:lo≤hi) (h2:hi≤n) (hd:cF N dst=true)
  (k:∀ao' cap',(∀L'':List Chunk,bU L'' ao n cap f l→bU L'' ao' (hi-lo) cap' f ((l.take hi).drop lo))→C (cD dst (.slice ao' (hi-lo) cap') E) L):aA P Q N ⟨dst, .slice t x ol oh none,ty,pos,aft,g⟩ E L C:=fun K hK A w hS hM=>by
 obtain⟨hrow,hln⟩:=hr w hM;have hcap:n≤cap:=by
  obtain⟨-, -,ao',cap',g2,g3, -⟩:=hrow;simp only[Value.slice.injEq]at g2;obtain⟨-, -,rfl⟩:=g2;exact g3
 unfold Oper.wp;rw[FP hS hx ht he hb h1 (by omega) w];subst hs2;exact hK _ _ (k _ _ (fun L'' hr' w' hM'=>⟨Row.sub (hr' w' hM').1 (hr' w' hM').2 h1 h2,by simp;omega⟩)) _ _ (hS.put _ hd) hM
end
theorem Still.aBj{x y:Operand}{k:IntKind}{a b z:Int}{tt:TypeId}(hx:ev E x=some (.int k a))(hy:ev E y=some (.int k b))(hz:(if b<a then b else a)=z):Still P N ⟨dst, .call ⟨.builtin .min, #[x,y], #[tt,tt]⟩,ty,pos,aft,g⟩ E L (.int k z):=fun A w hs _=>by
 subst hz;simp[execOp,resolve,invoke,builtin,hs.ev hx,hs.ev hy,Builtin.min_,Builtin.min2]
theorem Still.imax{x y:Operand}{k:IntKind}{a b z:Int}{tt:TypeId}(hx:ev E x=some (.int k a))(hy:ev E y=some (.int k b))(hz:(if a<b then b else a)=z):Still P N ⟨dst, .call ⟨.builtin .max, #[x,y], #[tt,tt]⟩,ty,pos,aft,g⟩ E L (.int k z):=fun A w hs _=>by
 subst hz;simp[execOp,resolve,invoke,builtin,hs.ev hx,hs.ev hy,Builtin.max_,Builtin.max2]
theorem aA.PW{α:Type}{iα:Inhabited α}{ao:Option Addr}{n cap:Nat}{e:TypeId}{f:α→List Value}{ef:bF f}{l:List α}{t:TypeId}{s' b' s2 b2 lo hi:Nat}{d2:cV}{z' z2:List Value}{x:Operand}{ol oh:Option Operand}{C:Env→List Chunk→Prop}(hx:ev E x=some (.slice ao n cap):=by exact rfl)(ht:aW P t=some ⟨.slice e,s',b',z'⟩:=by exact rfl)(he:aW P e=some ⟨d2,s2,b2,z2⟩:=by exact rfl)
  (hr:bU L ao n cap f l:=by exact Jr) (hs2:s2=sz f:=by exact rfl) (hb:eF E n ol oh lo hi:=by(first|exact eF.all|(apply eF.lo;exact rfl;(first|exact iK _|exact(rfl:(0:Int)=((0:Nat):Int))|exact rfl|(refine(qF ?_).symm;omega)))|(apply eF.hi;exact rfl;(first|exact iK _|exact(rfl:(0:Int)=((0:Nat):Int))|exact rfl|(refine(qF ?_).symm;omega)))|(apply eF.both;exact rfl;(first|exact iK _|exact(rfl:(0:Int)=((0:Nat):Int))|exact rfl|(refine(qF ?_).symm;omega));exact rfl;(first|exact iK _|exact(rfl:(0:Int)=((0:Nat):Int))|exact rfl|(refine(qF ?_).symm;omega))))) (h1:lo≤hi:=by omega) (h2:hi≤n:=by omega) (hd:cF N dst=true:=by exact rfl)
  (k:∀ao' cap',(∀L'':List Chunk,bU L'' ao n cap f l→bU L'' ao' (hi-lo) cap' f ((l.take hi).drop lo))→C (cD dst (.slice ao' (hi-lo) cap') E) L):aA P Q N ⟨dst, .slice t x ol oh none,ty,pos,aft,g⟩ E L C:=aA.aAX hx ht he hr hs2 hb h1 h2 hd k
end
end
namespace Vw
open Go.RowKit Img
section
attribute [local irreducible] aE aB End aA Still aM aP RunT Fn aO
structure Sk where
 sb:Nat
 lb:Nat
 l:List Int
 live:Nat
instance:Inhabited Sk:=⟨⟨0,0,[],0⟩⟩
structure Sk.Ok(k:Sk):Prop where
 live:k.live≤k.l.length
 lo:8≤k.l.length
 hi:k.l.length≤400
abbrev Sk.ws(k:Sk):List Int:=k.l.take k.live
abbrev mG(k:Sk):List Value:=[.slice (some ⟨k.lb,0,none⟩) k.l.length k.l.length, .int .i64 (k.live:Int), .int .i64 8, .int .i64 400]
abbrev gZ(k:Sk):List Chunk:=[aD k.sb (mG k) 236,arr (some ⟨k.lb,0,none⟩) k.l.length k.l.length 2 aT k.l]
theorem EK(k:Sk):Fn Tryz.prog 103 #[ptr k.sb] [] (gZ k) (σ:=Unit) (fun _=>True) (fun _=> .int .i64 (k.live:Int)) (fun _=>gZ k):=by
 refine JE [ptr k.sb] Tryz.func103 Tryz.ntmps103 fun w S=>?_
 (refine Jn ?_)
 repeat(refine Jy ?_)
 (refine End.aH (()) (he:=Jv) (hp:=?_));trivial
theorem HG(k:Sk)(i:Nat)(hi:i<k.l.length)(h4:k.l.length≤400):Fn Tryz.prog 62 #[ptr k.sb, .int .i64 (i:Int)] [] (gZ k) (σ:=Unit) (fun _=>True) (fun _=> .pointer (place (sz aT) (some ⟨k.lb,0,none⟩) i 0)) (fun _=>gZ k):=by
 refine JE [ptr k.sb, .int .i64 (i:Int)] Tryz.func62 Tryz.ntmps62 fun w S=>?_
 (refine Jn ?_)
 repeat(refine Jy ?_)
 (refine End.aH (()) (he:=Jv) (hp:=?_));trivial
theorem VQ(k:Sk)(hk:k.Ok)(n:Nat)(h1:k.live≤n)(h8:8≤n)(h4:n≤400):Fn Tryz.prog 140 #[ptr k.sb, .int .i64 (n:Int)] [] (gZ k) (σ:=Nat) (fun _=>True) (fun _=> .tuple #[]) (fun b=>gZ ⟨k.sb,b,k.ws ++List.replicate (n-k.live) 0,k.live⟩):=by
 obtain⟨g1,g2,g3⟩:=hk;obtain⟨sb,lb,l,live⟩:=k;simp only at *;refine JE [ptr sb, .int .i64 (n:Int)] Tryz.func140 Tryz.ntmps140 fun w S=>?_
 (refine Jn ?_)
 repeat(refine Jy ?_)
 apply aE.op (by exact rfl);refine aA.rQ (f:=aT) (iα:=inferInstance) (ef:=inferInstance) (z:=0) (n:=n) (k:=?_);intro nb
 repeat(refine Jy ?_)
 apply aB.draw 10 ([aD sb [.slice (some ⟨lb,0,none⟩) l.length l.length, .int .i64 (live:Int), .int .i64 8, .int .i64 400] 236]) (by kernel_rfl) 11 rfl;refine JR 0 ?_;refine JR 1 ?_;refine JR 2 ?_;refine JR 3 ?_;refine JR 4 ?_;refine JR 5 ?_;refine JR 6 ?_;refine JR 7 ?_;refine JR 8 ?_;refine JT 9 ?_;refine aA.PW (f:=aT) (e:=2) (l:=l) (k:=?_);intro ao' cap' hcut;refine JG ?_;refine JT 10 ?_;refine aA.aAL (l:=List.replicate n 0) (l2:=(l.take live).drop 0) (m:=live-0) (hr:=hcut _ (by exact Jr)) (k:=?_);refine JG ?_;(apply RunT.done;kernel_rfl)
 repeat(refine Jy ?_)
 have e1:(l.take live).drop 0 ++(List.replicate n (0:Int)).drop (live-0)=l.take live ++List.replicate (n-live) 0:=by simp
 rw[e1];have e2:(l.take live ++List.replicate (n-live) 0).length=n:=by simp;omega
 refine End.cY nb (ht:=by rw[show gZ ⟨sb,nb,(⟨sb,lb,l,live⟩:Sk).ws ++List.replicate (n-live) 0,live⟩=[aD sb [.slice (some ⟨nb,0,none⟩) n n, .int .i64 (live:Int), .int .i64 8, .int .i64 400] 236,arr (some ⟨nb,0,none⟩) n n 2 aT (l.take live ++List.replicate (n-live) 0)] by simp only[gZ,mG,Sk.ws,e2]];exact aK) (hp:=trivial)
structure oM(k k':Sk)(xs:List Int):Prop where
 ok:k'.Ok
 sb:k'.sb=k.sb
 ws:k'.ws=xs
 live:k'.live=xs.length
theorem WA{a b:List Int}{n:Nat}(h:a.length=n):(a ++b).take n=a:=by subst h;simp
theorem Sk.len{k:Sk}(h:k.Ok):k.ws.length=k.live:=by
 have:=h.live;simp;omega
set_option maxHeartbeats 1000000 in
theorem L9(k:Sk)(hk:k.Ok)(v:Int):Fn Tryz.prog 102 #[ptr k.sb, .int .i64 v] [] (gZ k) (σ:=Sk) (fun k'=>if k.live=400 then k'=k else oM k k' (k.ws ++[v])) (fun _=> .bool (!decide (k.live=400))) (fun k'=>gZ k'):=by
 have hwl:=Sk.len hk;obtain⟨g1,g2,g3⟩:=id hk;refine JE [ptr k.sb, .int .i64 v] Tryz.func102 Tryz.ntmps102 fun w S=>?_
 (refine Jn ?_)
 by_cases h4:k.live=400
 ·repeat(refine Jy ?_)
  refine End.aH k (he:=by rw[decide_eq_true h4];rfl) (hp:=?_);rw[if_pos h4]
 ·refine aB.imp (L':=aI w S::gZ k) (fun w hm=>hm) ?_;have key:∀(k2:Sk),k2.Ok→k2.sb=k.sb→k2.ws=k.ws→k2.live=k.live→k2.live<k2.l.length→oM k {k2 with l:=k2.l.set k2.live v,live:=k2.live+1} (k.ws ++[v]):=fun k2 a1 a2 a3 a4 a5=>by
   obtain⟨b1,b2,b3⟩:=a1;refine⟨⟨by simp;omega,by simpa using b2,by simpa using b3⟩,a2,?_,by simp;omega⟩;show(k2.l.set k2.live v).take (k2.live+1)=k.ws ++[v];rw[←a3];have hl:(k2.l.set k2.live v).length=k2.l.length:=by simp
   rw[Jp (by omega),List.getElem_set_self];congr 1;rw[List.take_set_of_le (cG _)]
  by_cases hf:k.live=k.l.length
  ·have hmin:(if(400:Int)<2*(k.l.length:Int)then 400 else 2*(k.l.length:Int))=((min (2*k.l.length) 400:Nat):Int):=by split<;>omega
   repeat(refine Jy ?_)
   apply aB.draw 12 ([aD k.sb (mG k) 236]) (by kernel_rfl) 13 rfl;refine JR 0 ?_;refine JR 1 ?_;refine JR 2 ?_;refine JR 3 ?_;refine JR 4 ?_;refine JR 5 ?_;refine JR 6 ?_;refine JR 7 ?_;refine JR 8 ?_;refine JR 9 ?_;refine JR 10 ?_;refine RunT.a7 11 (hy:=by exact Still.aBj rfl rfl hmin) (h:=?_);(refine JT 12 ?_;refine JK (VQ k hk (min (2*k.l.length) 400) (by omega) (by omega) (by omega)) ?_;intro s hs;refine JG ?_;(refine Jn ?_));obtain⟨k2,e2⟩:∃k2:Sk,k2=⟨k.sb,s,k.ws ++List.replicate (min (2*k.l.length) 400-k.live) 0,k.live⟩:=⟨_,rfl⟩;have hk2l:k2.l.length=min (2*k.l.length) 400:=by rw[e2];simp at hwl⊢;omega
   have hk2:=key k2 ⟨by rw[hk2l,e2];simp only;omega,by omega,by omega⟩ (by rw[e2]) (by rw[e2];exact WA hwl) (by rw[e2]) (by rw[hk2l,e2];simp only;omega);have hlv:k2.live<k2.l.length:=by rw[hk2l,e2];simp only;omega
   rw[←e2];have e2b:s=k2.lb:=by rw[e2]
   have e2l:k.ws ++List.replicate (min (2*k.l.length) 400-k.live) 0=k2.l:=by rw[e2]
   rw[e2b,e2l];have hsb:k.sb=k2.sb:=by rw[e2]
   have hok2:k2.live≤400:=by rw[e2];simp only;omega
   rw[hsb];(apply RunT.done;kernel_rfl)
   repeat(refine Jy ?_)
   (apply aE.op;exact rfl;refine aA.iG (f:=aT) (l:=k2.l) (i:=k2.live) (off:=0) (vs:=[.int .i64 v]) (a':=v) (k:=?_))
   repeat(refine Jy ?_)
   have hle:(k2.l.set k2.live v).length=k2.l.length:=Ji;refine End.aH ({k2 with l:=k2.l.set k2.live v,live:=k2.live+1}:Sk) (he:=by rw[decide_eq_false h4];rfl) (ht:=by(simp only[gZ,mG,hle];exact aK)) (hp:=?_);rw[if_neg h4];exact hk2
  ·have hk2:=key k hk rfl rfl rfl (by omega)
   repeat(refine Jy ?_)
   (apply aE.op;exact rfl;refine aA.iG (f:=aT) (l:=k.l) (i:=k.live) (off:=0) (vs:=[.int .i64 v]) (a':=v) (k:=?_))
   repeat(refine Jy ?_)
   have hle:(k.l.set k.live v).length=k.l.length:=Ji;refine End.aH ({k with l:=k.l.set k.live v,live:=k.live+1}:Sk) (he:=by rw[decide_eq_false h4];rfl) (ht:=by(simp only[gZ,mG,hle];exact aK)) (hp:=?_);rw[if_neg h4];exact hk2
set_option maxHeartbeats 1000000 in
theorem L8(k:Sk)(hk:k.Ok)(n:Nat)(hn:n≤k.live):Fn Tryz.prog 104 #[ptr k.sb, .int .i64 (n:Int)] [] (gZ k) (σ:=Sk) (fun k'=>oM k k' (k.ws.take (k.live-n))) (fun _=> .tuple #[]) (fun k'=>gZ k'):=by
 have hwl:=Sk.len hk;obtain⟨g1,g2,g3⟩:=id hk;have q4:IntKind.i64.wrap ((k.l.length:Int).tdiv 4)=((k.l.length/4:Nat):Int):=by rw[Int.tdiv_eq_ediv_of_nonneg (by omega),dA (by omega)];omega
 have q2:IntKind.i64.wrap ((k.l.length:Int).tdiv 2)=((k.l.length/2:Nat):Int):=by rw[Int.tdiv_eq_ediv_of_nonneg (by omega),dA (by omega)];omega
 have s1:IntKind.i64.wrap ((k.live:Int)-(n:Int))=((k.live-n:Nat):Int):=by rw[dA (by omega)];omega
 obtain⟨k1,e1⟩:∃k1:Sk,k1=⟨k.sb,k.lb,k.l,k.live-n⟩:=⟨_,rfl⟩;have hk1:oM k k1 (k.ws.take (k.live-n)):=⟨by rw[e1];exact⟨by simp only;omega,g2,g3⟩,by rw[e1],by rw[e1];simp only[Sk.ws,List.take_take];congr 1;omega,by rw[e1];simp;omega⟩;have hl1:k1.l.length=k.l.length:=by rw[e1]
 have hv1:k1.live=k.live-n:=by rw[e1]
 refine JE [ptr k.sb, .int .i64 (n:Int)] Tryz.func104 Tryz.ntmps104 fun w S=>?_
 (refine Jn ?_)
 by_cases h4:k.live-n≤k.l.length/4
 ·by_cases h8:8<k.l.length
  ·have hmax:(if((k.l.length/2:Nat):Int)<8 then 8 else((k.l.length/2:Nat):Int))=((max (k.l.length/2) 8:Nat):Int):=by split<;>omega
   repeat(refine Jy ?_)
   apply aB.draw 12 ([aD k.sb [.slice (some ⟨k.lb,0,none⟩) k.l.length k.l.length, .int .i64 ((k.live-n:Nat):Int), .int .i64 8, .int .i64 400] 236]) (by kernel_rfl) 13 rfl;refine JR 0 ?_;refine JR 1 ?_;refine JR 2 ?_;refine JR 3 ?_;refine JR 4 ?_;refine JR 5 ?_;refine JR 6 ?_;refine JR 7 ?_;refine JR 8 ?_;refine JR 9 ?_;refine JR 10 ?_;refine RunT.a7 11 (hy:=by exact Still.imax rfl rfl hmax) (h:=?_);have e2:k1.sb=k.sb:=by rw[e1]
   have e3:k1.lb=k.lb:=by rw[e1]
   have e4:k1.l=k.l:=by rw[e1]
   rw[←hv1,←e2,←e3,←e4];(refine JT 12 ?_;refine JK (VQ k1 hk1.ok (max (k1.l.length/2) 8) (by omega) (by omega) (by omega)) ?_;intro s hs;refine JG ?_;(refine Jn ?_));(apply RunT.done;kernel_rfl)
   repeat(refine Jy ?_)
   have hlen:k1.ws.length=k1.live:=Sk.len hk1.ok;refine End.cY (⟨k1.sb,s,k1.ws ++List.replicate (max (k1.l.length/2) 8-k1.live) 0,k1.live⟩:Sk) (hp:=?_);rw[←hv1]at hk1;exact⟨⟨by simp;omega,by simp;omega,by simp;omega⟩,hk1.sb,by rw[←hk1.ws];exact WA hlen,hk1.live⟩
  ·repeat(refine Jy ?_)
   refine End.cY (⟨k.sb,k.lb,k.l,k.live-n⟩:Sk) (hp:=?_);rw[←e1];exact hk1
 ·repeat(refine Jy ?_)
  refine End.cY (⟨k.sb,k.lb,k.l,k.live-n⟩:Sk) (hp:=?_);rw[←e1];exact hk1
theorem aHb(k:Sk)(hk:k.Ok):Fn Tryz.prog 141 #[ptr k.sb] [] (gZ k) (σ:=Option Addr×Nat) (fun _=>True) (fun s=> .slice s.1 k.live s.2) (fun s=>arr s.1 k.live s.2 2 aT k.ws::gZ k):=by
 have hwl:=Sk.len hk;obtain⟨g1,g2,g3⟩:=id hk;refine JE [ptr k.sb] Tryz.func141 Tryz.ntmps141 fun w S=>?_
 (refine Jn ?_);apply aB.jQ;apply aB.region;(apply aE.op;exact rfl;refine aA.b8 (k:=?_));apply aE.nil;apply End.jQ;apply aB.jQ;apply aB.imp (fun w hm=>hm.bY 2 aT);apply aB.draw 9 (gZ k) (by kernel_rfl) 11 rfl;refine JR 0 ?_;refine JR 1 ?_;refine JR 2 ?_;refine JR 3 ?_;refine JR 4 ?_;refine JR 5 ?_;refine JR 6 ?_;refine JR 7 ?_;refine JT 8 ?_;refine aA.PW (f:=aT) (e:=2) (l:=k.l) (k:=?_);intro ao' cap' hcut;refine JG ?_;refine JT 9 ?_;refine aA.wH (l:=[]) (l2:=k.ws) (hr:=hcut _ (by exact Jr)) (k:=?_);intro ao2 cap2;refine JG ?_;rw[show 0+(k.live-0)=k.live by omega,Jk];refine RunT.B5 10 (h:=aA.b8 (k:=And.intro uP ?_));(apply RunT.done;kernel_rfl)
 repeat(refine Jy ?_)
 refine End.aH (ao2,cap2) (he:=by rfl) (hp:=trivial)
theorem aDS:Fn Tryz.prog 101 #[.int .i64 8, .int .i64 400] [] [] (σ:=Sk) (fun k=>k.Ok∧k.ws=[]∧k.live=0) (fun k=>ptr k.sb) (fun k=>gZ k):=by
 refine JE [.int .i64 8, .int .i64 400] Tryz.func101 Tryz.ntmps101 fun w S=>?_
 (refine Jn ?_)
 repeat(refine Jy ?_)
 apply aE.op (by exact rfl);refine aA.rQ (f:=aT) (iα:=inferInstance) (ef:=inferInstance) (z:=0) (n:=8) (k:=?_);intro nb
 repeat(refine Jy ?_;try intro b)
 refine End.aH (⟨b,nb,List.replicate 8 0,0⟩:Sk) (he:=by rfl) (hp:=?_);exact⟨⟨by simp,by simp,by simp⟩,rfl,rfl⟩
end
structure cN where
 μ:Type
 ν:Type
 V:Vm.Env ν
 abs:μ→ν
 ok:μ→Prop
 mem:μ→Chunk
 size:ν→Nat
 tK:∀v b x,size (V.put v b x)≤size v+1
 rW:∀v b,size (V.take v b).2≤size v+1
 o4:∀v x,size (V.tell v x)≤size v+1
 bB:∀e,(mem e).bB=true
 rc:Chunk
 dJ:rc.bB=false
 T:TypeId
 rv:Value
 told:Option (FuncId×List Value)
 boxes:Nat
 BD:FuncId
 BC:FuncId
 BE:FuncId
 BF:FuncId
 KV:vT Tryz.prog T rv "Full" BD
 KU:vT Tryz.prog T rv "Empty" BC
 KW:vT Tryz.prog T rv "Put" BE
 KX:vT Tryz.prog T rv "Take" BF
 HI:fM Tryz.prog BD=true
 HH:fM Tryz.prog BC=true
 HJ:fM Tryz.prog BE=true
 HK:fM Tryz.prog BF=true
 full:∀(e:μ) (b:Nat),ok e→b<boxes→Fn Tryz.prog BD #[rv, .int .i64 (b:Int)] [rc] [mem e] (σ:=Unit) (fun _=>True) (fun _=> .bool (V.full (abs e) b)) (fun _=>[mem e])
 empty:∀(e:μ) (b:Nat),ok e→b<boxes→Fn Tryz.prog BC #[rv, .int .i64 (b:Int)] [rc] [mem e] (σ:=Unit) (fun _=>True) (fun _=> .bool (V.empty (abs e) b)) (fun _=>[mem e])
 put:∀(e:μ) (b:Nat) (v:Int),ok e→b<boxes→V.full (abs e) b=false→size (abs e)≤2000000→Fn Tryz.prog BE #[rv, .int .i64 (b:Int), .int .i64 v] [rc] [mem e] (σ:=μ) (fun e'=>ok e'∧abs e'=V.put (abs e) b v) (fun _=> .tuple #[]) (fun e'=>[mem e'])
 take:∀(e:μ) (b:Nat),ok e→b<boxes→V.empty (abs e) b=false→Fn Tryz.prog BF #[rv, .int .i64 (b:Int)] [rc] [mem e] (σ:=μ) (fun e'=>ok e'∧abs e'=(V.take (abs e) b).2) (fun e'=> .int .i64 (V.take (abs e) b).1) (fun e'=>[mem e'])
 tell:match told with
  |none=>∀v x,V.tell v x=v
  |some (f,cap)=>fM Tryz.prog f=true∧∀(e:μ) (a b v:Int),ok e→size (abs e)≤2000000→Fn Tryz.prog f (#[.int .i64 a, .int .i64 b, .int .i64 v] ++cap.toArray) [rc] [mem e] (σ:=μ) (fun e'=>ok e'∧abs e'=V.tell (abs e) (a,b,v)) (fun _=> .tuple #[]) (fun e'=>[mem e'])
attribute [simp] cN.bB cN.dJ
abbrev cN.iE(E:cN)(e:E.μ):Prop:=E.ok e∧E.size (E.abs e)≤2000000
theorem aGq(E:cN)(n:Int)(s:Vm.Tk×E.ν):E.size (Vm.dS E.V n s).2≤E.size s.2+1:=by
 unfold Vm.dS
 split
 ·exact l6 _
 ·exact E.o4 _ _
theorem aEY(E:cN)(v:Int)(s:Vm.Tk×E.ν):E.size (Vm.push E.V v s).2≤E.size s.2+1:=by
 unfold Vm.push
 split
 ·exact aGq E _ _
 ·exact l6 _
theorem UK(E:cN):∀(n:Nat) (s:Vm.Tk×E.ν),E.size (Vm.eV E.V n s).2≤E.size s.2+n
 |0,s=>cG _
 |n+1,s=>by
  unfold Vm.eV;have h1:=UK E n (Vm.push E.V 0 s);have h2:=aEY E 0 s;omega
def jH:Option (FuncId×List Value)→Value
 |none=> .nilFunc
 |some (f,cap)=> .func (.func f) #[] cap.toArray
abbrev qY(mb:Nat)(mail cos:Value)(cb:Nat)(st bx tr:Int)(out told:Value):List Value:=[ptr mb,mail,cos,ptr cb, .int .i64 st, .int .i64 bx, .int .i64 tr,out,told]
abbrev O8(st:Int)(up fr:Value)(sb:Nat):List Value:=[.int .i64 st,up,fr,ptr sb]
structure TF where
 tb:Nat
 mb:Nat
 cos:Value
 cb:Nat
 bx:Int
 out:Value
abbrev cN.jN(E:cN):Value:= .iface E.T E.rv
abbrev cN.tc(E:cN)(F:TF)(st tr:Int):Chunk:=aD F.tb (qY F.mb E.jN F.cos F.cb st F.bx tr F.out (jH E.told)) 103
abbrev cc(cb:Nat)(st:Int)(up fr:Value)(sb:Nat):Chunk:=aD cb (O8 st up fr sb) 168
structure G9(E:cN)(n st tr:Int)(e:E.μ)(q:Int×Int×E.μ):Prop where
 aI:st=5→q=(st,tr,e)
 new:st≠5→q.1=5∧q.2.1=n∧E.ok q.2.2∧E.abs q.2.2=E.V.tell (E.abs e) (5,0,n)
structure OG(E:cN)(v:Int)(k:Sk)(st tr:Int)(e:E.μ)(q:Sk×Int×Int×E.μ):Prop where
 full:k.live=400→q.1=k∧G9 E 4 st tr e q.2
 room:k.live≠400→oM k q.1 (k.ws ++[v])∧q.2=(st,tr,e)
section
attribute [local irreducible] aE aB End aA Still aM aP RunT Fn aO
variable(E:cN)
theorem zU(F:TF)(st tr:Int)(e:E.μ)(he:E.iE e)(a b v:Int):Fn Tryz.prog 66 #[ptr F.tb, .int .i64 a, .int .i64 b, .int .i64 v] [E.rc] [E.tc F st tr,E.mem e] (σ:=E.μ) (fun e'=>E.ok e'∧E.abs e'=E.V.tell (E.abs e) (a,b,v)) (fun _=> .tuple #[]) (fun e'=>[E.tc F st tr,E.mem e']):=by
 have hT:=E.tell;have key:Fn Tryz.prog 66 #[ptr F.tb, .int .i64 a, .int .i64 b, .int .i64 v] [E.rc] [aD F.tb (qY F.mb E.jN F.cos F.cb st F.bx tr F.out (jH E.told)) 103,E.mem e] (σ:=E.μ) (fun e'=>E.ok e'∧E.abs e'=E.V.tell (E.abs e) (a,b,v)) (fun _=> .tuple #[]) (fun e'=>[aD F.tb (qY F.mb E.jN F.cos F.cb st F.bx tr F.out (jH E.told)) 103,E.mem e']):=by
  cases ht:E.told with
  |none=>
   rw[ht]at hT;refine JE [ptr F.tb, .int .i64 a, .int .i64 b, .int .i64 v] Tryz.func66 Tryz.ntmps66 fun w S=>?_
   (refine Jn ?_)
   repeat(refine Jy ?_)
   (refine End.cY (e) (hp:=?_));exact⟨he.1,(hT _ _).symm⟩
  |some fc=>
   obtain⟨f,cap⟩:=fc;rw[ht]at hT;obtain⟨hb,hT⟩:=hT;have hT:=hT e a b v he.1 he.2;refine JE [ptr F.tb, .int .i64 a, .int .i64 b, .int .i64 v] Tryz.func66 Tryz.ntmps66 fun w S=>?_
   (refine Jn ?_)
   repeat(refine Jy ?_)
   (apply aE.op;exact rfl;refine aA.O6 (spec:=hT) (hc:=hb) (r:=fun w=>Reads.any (tk) E.dJ .nil) (k:=?_));intro s hs;(refine Jn ?_)
   repeat(refine Jy ?_)
   (refine End.cY (s) (hp:=?_));exact hs
 exact key
theorem vI(F:TF)(st tr:Int)(e:E.μ)(he:E.iE e)(n:Int):Fn Tryz.prog 64 #[ptr F.tb, .int .i64 n] [E.rc] [E.tc F st tr,E.mem e] (σ:=Int×Int×E.μ) (G9 E n st tr e) (fun _=> .tuple #[]) (fun q=>[E.tc F q.1 q.2.1,E.mem q.2.2]):=by
 refine JE [ptr F.tb, .int .i64 n] Tryz.func64 Tryz.ntmps64 fun w S=>?_
 (refine Jn ?_)
 by_cases h5:st=5
 ·repeat(refine Jy ?_)
  (refine End.cY ((st,tr,e)) (hp:=?_));exact⟨fun _=>rfl,fun h=>absurd h5 h⟩
 ·repeat(refine Jy ?_)
  (refine Jc ?_;refine aA.aZ (spec:=zU E F 5 n e he 5 0 n) (r:=fun w=>Reads.any (tk) E.dJ .nil) (k:=?_);intro s hs;(refine Jn ?_))
  repeat(refine Jy ?_)
  (refine End.cY ((5,n,s)) (hp:=?_));exact⟨fun h=>absurd h h5,fun _=>⟨rfl,rfl,hs⟩⟩
theorem lH(F:TF)(st tr:Int)(e:E.μ)(he:E.iE e)(cst:Int)(up fr:Value)(k:Sk)(hk:k.Ok)(v:Int):Fn Tryz.prog 61 #[ptr F.tb, .int .i64 v] [E.rc] (E.tc F st tr::cc F.cb cst up fr k.sb::E.mem e::gZ k) (σ:=Sk×Int×Int×E.μ) (OG E v k st tr e) (fun _=> .tuple #[]) (fun q=>E.tc F q.2.1 q.2.2.1::cc F.cb cst up fr q.1.sb::E.mem q.2.2.2::gZ q.1):=by
 refine JE [ptr F.tb, .int .i64 v] Tryz.func61 Tryz.ntmps61 fun w S=>?_
 (refine Jn ?_)
 repeat(refine Jy ?_)
 (refine JQ (L9 k hk v) ?_;intro s hs;(refine Jn ?_))
 by_cases h4:k.live=400
 ·rw[if_pos h4]at hs;rw[hs,decide_eq_true h4]
  repeat(refine Jy ?_)
  (refine Jc ?_;refine aA.aZ (spec:=vI E F st tr e he 4) (r:=fun w=>Reads.any (tk) E.dJ .nil) (k:=?_);intro s hs;(refine Jn ?_))
  repeat(refine Jy ?_)
  (refine End.cY ((k,s)) (hp:=?_));exact⟨fun _=>⟨rfl,hs⟩,fun h=>absurd h4 h⟩
 ·rw[if_neg h4]at hs;rw[decide_eq_false h4];obtain⟨sb2,lb2,l2,live2⟩:=s;obtain rfl:sb2=k.sb:=hs.sb
  repeat(refine Jy ?_)
  (refine End.cY ((⟨k.sb,lb2,l2,live2⟩,st,tr,e)) (hp:=?_));exact⟨fun h=>absurd h h4,fun _=>⟨hs,rfl⟩⟩
theorem nC(F:TF)(st tr:Int)(cst:Int)(up fr:Value)(mail told:Value)(k:Sk)(hk:k.Ok)(h0:0<k.live):Fn Tryz.prog 63 #[ptr F.tb] [] (aD F.tb (qY F.mb mail F.cos F.cb st F.bx tr F.out told) 103::cc F.cb cst up fr k.sb::gZ k) (σ:=Sk) (fun k'=>oM k k' (k.ws.take (k.live-1))) (fun _=> .int .i64 (k.ws.getD (k.live-1) 0)) (fun k'=>aD F.tb (qY F.mb mail F.cos F.cb st F.bx tr F.out told) 103::cc F.cb cst up fr k'.sb::gZ k'):=by
 obtain⟨g1,g2,g3⟩:=id hk;refine JE [ptr F.tb] Tryz.func63 Tryz.ntmps63 fun w S=>?_
 (refine Jn ?_)
 repeat(refine Jy ?_)
 (refine JQ (EK k) ?_;intro s hs;(refine Jn ?_));have s1:IntKind.i64.wrap ((k.live:Int)-1)=((k.live-1:Nat):Int):=by rw[dA (by omega)];omega
 repeat(refine Jy ?_)
 (refine JQ (HG k (k.live-1) (by omega) g3) ?_;intro s hs;(refine Jn ?_))
 repeat(refine Jy ?_)
 (refine JQ (L8 k hk 1 h0) ?_;intro s hs;(refine Jn ?_));obtain⟨sb2,lb2,l2,live2⟩:=s;obtain rfl:sb2=k.sb:=hs.sb
 repeat(refine Jy ?_)
 refine End.aH (⟨k.sb,lb2,l2,live2⟩:Sk) (he:=?_) (hp:=hs);show _=Value.int IntKind.i64 ((k.l.take k.live).getD (k.live-1) 0);rw[Jd,Jd,AW,if_pos (by omega)];rfl
theorem Y0(F:TF)(st tr:Int)(cst:Int)(up fr:Value)(mail told:Value)(k:Sk)(hk:k.Ok)(n:Nat)(h0:n≤k.live):Fn Tryz.prog 108 #[ptr F.tb, .int .i64 (n:Int)] [] (aD F.tb (qY F.mb mail F.cos F.cb st F.bx tr F.out told) 103::cc F.cb cst up fr k.sb::gZ k) (σ:=Sk×Option Addr×Nat) (fun s=>oM k s.1 (k.ws.take (k.live-n))) (fun s=> .slice s.2.1 n s.2.2) (fun s=>arr s.2.1 n s.2.2 2 aT (k.ws.drop (k.live-n))::aD F.tb (qY F.mb mail F.cos F.cb st F.bx tr F.out told) 103::cc F.cb cst up fr s.1.sb::gZ s.1):=by
 obtain⟨g1,g2,g3⟩:=id hk;have hwl:=Sk.len hk;refine JE [ptr F.tb, .int .i64 (n:Int)] Tryz.func108 Tryz.ntmps108 fun w S=>?_
 (refine Jn ?_)
 repeat(refine Jy ?_)
 (refine JQ (aHb k hk) ?_;intro s hs;(refine Jn ?_));obtain⟨ao,cap⟩:=s
 repeat(refine Jy ?_)
 (refine JQ (EK k) ?_;intro s hs;(refine Jn ?_));have s1:IntKind.i64.wrap ((k.live:Int)-(n:Int))=((k.live-n:Nat):Int):=by rw[dA (by omega)];omega
 repeat(refine Jy ?_;try intro ao cap)
 rw[show k.live-(k.live-n)=n by omega];(refine JQ (L8 k hk n h0) ?_;intro s hs;(refine Jn ?_));obtain⟨sb2,lb2,l2,live2⟩:=s;obtain rfl:sb2=k.sb:=hs.sb
 repeat(refine Jy ?_)
 refine End.aH ((⟨k.sb,lb2,l2,live2⟩:Sk),ao,cap) (he:=by rfl) (hp:=hs)
end
def gH(b:Nat):List Value:=[ptr b]
instance:bF gH:=⟨fun _=>rfl,by decide,fun a u hu=>by simp[gH]at hu;subst hu;rfl⟩
def cP(f:Vm.Fr):List Value:=[.int .i64 (f.unit:Int), .int .i64 (f.pc:Int), .int .i64 (f.base:Int)]
instance:bF cP:=⟨fun _=>rfl,by decide,fun a u hu=>by simp[cP]at hu;rcases hu with rfl|rfl|rfl<;>rfl⟩
structure b9 where
 cb:Nat
 st:Nat
 up:Option Nat
 upb:Option Nat
 fo:Option Addr
 fc:Nat
 fr:List Vm.Fr
 sk:Sk
instance:Inhabited b9:=⟨⟨0,0,none,none,none,0,[],default⟩⟩
def b9.abs(c:b9):Vm.Co:=⟨c.st,c.up,c.fr,c.sk.ws⟩
def eM:Option Nat→Value
 |none=> .pointer none
 |some b=>ptr b
abbrev gF(c:b9):Chunk:=arr c.fo c.fr.length c.fc 171 cP c.fr
abbrev iQ(c:b9):Chunk:=cc c.cb (c.st:Int) (eM c.upb) (.slice c.fo c.fr.length c.fc) c.sk.sb
abbrev gY(c:b9):List Chunk:=[iQ c,gF c,aD c.sk.sb (mG c.sk) 236,arr (some ⟨c.sk.lb,0,none⟩) c.sk.l.length c.sk.l.length 2 aT c.sk.l]
def kO(l:List b9):Chunk:=aR (l.flatMap gY)
@[simp] theorem aHk (l : List b9) : (kO l).bB = true := jT
structure Pl where
 tb:Nat
 mb:Nat
 m:ML
structure SL(E:cN) where
 co:Option Addr
 ccap:Nat
 bs:List Nat
 oth:List b9
 now:Nat
 cur:b9
 st:Int
 bx:Int
 tr:Int
 oo:Option Addr
 oc:Nat
 out:List Int
 e:E.μ
abbrev fN(m:ML):List Value:=[.slice m.bo m.bx.length m.bc, .slice m.uo m.us.length m.uc]
abbrev iZ{E:cN}(p:Pl)(s:SL E):Chunk:=aD p.tb (qY p.mb E.jN (.slice s.co s.bs.length s.ccap) s.cur.cb s.st s.bx s.tr (.slice s.oo s.out.length s.oc) (jH E.told)) 103
abbrev kU(p:Pl):Chunk:=aD p.mb (fN p.m) 26
abbrev A7{E:cN}(s:SL E):Chunk:=arr s.co s.bs.length s.ccap 100 gH s.bs
abbrev TD{E:cN}(s:SL E):Chunk:=arr s.oo s.out.length s.oc 2 aT s.out
abbrev TM{E:cN}(p:Pl)(s:SL E):List Chunk:=[iZ p s,kU p,A7 s,TD s,kO (s.oth.eraseIdx s.now),E.mem s.e,iQ s.cur,gF s.cur,aD s.cur.sk.sb (mG s.cur.sk) 236,arr (some ⟨s.cur.sk.lb,0,none⟩) s.cur.sk.l.length s.cur.sk.l.length 2 aT s.cur.sk.l]
section
variable{E:cN}
def SL.all(s:SL E):List b9:=s.oth.set s.now s.cur
def SL.tk(s:SL E):Vm.Tk:=⟨s.all.map b9.abs,s.now,s.st,s.bx,s.tr,s.out⟩
def SL.two(s:SL E):Vm.Tk×E.ν:=(s.tk,E.abs s.e)
structure SL.Wf(s:SL E):Prop where
 now:s.now<s.oth.length
 len:s.bs.length=s.oth.length
 dY:s.oth.length≤31
 at_:∀i,i<s.oth.length→(s.all.getD i default).cb=s.bs.getD i 0
 up:∀c∈s.all,c.upb=c.up.map fun j=>s.bs.getD j 0
 lL:∀c∈s.all,∀j,c.up=some j→j<s.oth.length
 sk:∀c∈s.all,c.sk.Ok
 env:E.ok s.e
variable{s:SL E}
theorem SL.Wf.sV(h:s.Wf):s.cur∈s.all:=by
 unfold SL.all;exact List.mem_set h.now _
theorem SL.Wf.cX(h:s.Wf):s.cur.sk.Ok:=h.sk _ h.sV
theorem SL.uG(s:SL E):s.all.length=s.oth.length:=Ji
theorem SL.Wf.wK(h:s.Wf):s.all.getD s.now default=s.cur:=by
 unfold SL.all;rw[Jd,JS (by exact h.now)];rfl
theorem I0{α β:Type} [Inhabited α] [Inhabited β](f:α→β)(l:List α){k:Nat}(hk:k<l.length):(l.map f).getD k default=f (l.getD k default):=by
 rw[Jd,Jd,JU,Je hk];rfl
theorem SL.Wf.cur(h:s.Wf):Vm.cur s.tk=s.cur.abs:=by
 show(s.all.map b9.abs).getD s.now default=_;rw[I0 _ _ (by rw[s.uG];exact h.now),h.wK]
theorem SL.Wf.H5(h:s.Wf):s.cur.cb=s.bs.getD s.now 0:=by
 rw[←h.at_ _ h.now,h.wK]
theorem SL.tM(s:SL E)(c:b9):({s with cur:=c}:SL E).tk=Vm.setCur s.tk c.abs:=by
 unfold SL.tk Vm.setCur Vm.dM SL.all;simp only[List.map_set,List.set_set]
theorem SL.Wf.setCur(h:s.Wf){c:b9}(hcb:c.cb=s.cur.cb)(hup:c.up=s.cur.up)(hupb:c.upb=s.cur.upb)(hk:c.sk.Ok):({s with cur:=c}:SL E).Wf:=by
 have hset:∀d∈({s with cur:=c}:SL E).all,d=c∨d∈s.all:=fun d hd=>by
  unfold SL.all at hd⊢;simp only at hd;obtain⟨i,hi,e⟩:=List.mem_iff_getElem.1 hd;rw[tZ]at e
  split at e
  ·exact .inl e.symm
  ·rename_i hne
   right
   rw[←e];refine List.mem_iff_getElem.2 ⟨i,by simpa using hi,?_⟩;rw[List.getElem_set_ne hne]
 have hall:∀i,i<s.oth.length→(({s with cur:=c}:SL E).all.getD i default).cb=(s.all.getD i default).cb:=fun i hi=>by
  unfold SL.all;simp only[Jd,pI]
  by_cases hn:s.now=i
  ·subst hn;simp[h.now,hcb]
  ·simp[hn]
 refine⟨h.now,h.len,h.dY,fun i hi=>(hall i hi).trans (h.at_ i hi),fun d hd=>?_,fun d hd=>?_,fun d hd=>?_,h.env⟩
 ·rcases hset d hd with rfl|hd
  ·rw[hup,hupb];exact h.up _ h.sV
  ·exact h.up _ hd
 ·rcases hset d hd with rfl|hd
  ·rw[hup];exact h.lL _ h.sV
  ·exact h.lL _ hd
 ·rcases hset d hd with rfl|hd
  ·exact hk
  ·exact h.sk _ hd
end
section
attribute [local irreducible] aE aB End aA Still aM aP RunT Fn aO
theorem HX{m:ML}(hwf:m.Wf)(hV:Ver.verify m.aC= .ok):∃T,Vm.dF m.aC T:=by
 have hF:=formed (Ver.AG.1 hV).form;refine Vm.Z6 hV (fun k hk=>?_) (fun k hk i hi=>?_)
 ·rw[ML.jI];exact hF.kQ hwf (by simpa using hk)
 ·unfold Vm.bD at hi;rw[ML.jI]at hi;have:=(hwf.us _ (ML.nI (m:=m) (by simpa using hk))).code i hi;exact⟨this.2.2,this.2.1⟩
def j3(m:ML)(k:Nat):Bool:=decide ((m.aC.aL.getD k default).kind=4)
theorem zS(m:ML):Vm.tasks m.aC=(List.range m.us.length).filter (j3 m):=by
 unfold Vm.tasks;simp only[ML.aC,Jf];rfl
theorem WE(m:ML)(k:Nat):(List.range (k+1)).filter (j3 m)=(List.range k).filter (j3 m) ++if(m.us.getD k default).u.kind=4 then [k]else []:=by
 rw[oJ,oH];congr 1;have e:j3 m k=decide ((m.us.getD k default).u.kind=4):=by unfold j3;rw[ML.jI]
 simp only[pJ,List.filter_nil,e]
 by_cases h:(m.us.getD k default).u.kind=4<;>simp only[h,decide_true,decide_false,if_true,if_false,xS]
theorem zT(m:ML)(k:Nat):((List.range k).filter (j3 m)).length≤k:=by
 have:=pG (j3 m) (List.range k);simpa using this
theorem WC(mb:Nat)(m:ML)(hu:m.us.length≤1000):Fn Tryz.prog 29 #[ptr mb] [md m] [aD mb (fN m) 26] (σ:=Option Addr×Nat) (fun _=>True) (fun s=> .slice s.1 (Vm.tasks m.aC).length s.2) (fun s=>[arr s.1 (Vm.tasks m.aC).length s.2 3 eC (Vm.tasks m.aC),aD mb (fN m) 26]):=by
 rw[zS];refine JE [ptr mb] Tryz.func29 Tryz.ntmps29 fun w S=>?_
 (refine Jn ?_)
 repeat(refine Jy ?_)
 apply aB.imp (fun w hm=>hm.bY 3 eC);refine aB.only ((fun z=>[aI w S,md m,aD mb (fN m) 26,arr z.2.1 ((List.range z.1).filter (j3 m)).length z.2.2 3 eC ((List.range z.1).filter (j3 m))]) (0,none,0)) (aK) ?_;apply aB.loop (σ:=Nat×Option Addr×Nat) (fun z=>z.1≤m.us.length) (fun z=>[(0,ptr mb),(3, .slice z.2.1 ((List.range z.1).filter (j3 m)).length z.2.2),(9, .slice m.uo m.us.length m.uc),(10, .int .i64 (m.us.length:Int)),(11, .int .i64 (z.1:Int))]) (fun z=>[aI w S,md m,aD mb (fN m) 26,arr z.2.1 ((List.range z.1).filter (j3 m)).length z.2.2 3 eC ((List.range z.1).filter (j3 m))]) (fun z=>m.us.length-z.1) (0,none,0)
 rotate_left
 exact sb;exact aK;intro z hz K1 hK1;(refine Jn ?_)
 rotate_left
 ·exact bP _
 obtain⟨q,ao,ac⟩:=z;simp only at hz hK1⊢;have htl:=zT m q
 by_cases hq:q<m.us.length
 ·have hsn:=WE m q
  by_cases h4:(m.us.getD q default).u.kind=4
  ·rw[if_pos h4]at hsn;have hsl:((List.range (q+1)).filter (j3 m)).length=((List.range q).filter (j3 m)).length+1:=by rw[hsn];simp
   repeat(refine Jy ?_;try first|intro ao cap|intro b)
   rw[←hsn,←hsl];refine End.bK hK1 (q+1,ao,cap) ?_ ?_
   ·simp only;omega
   ·simp only;omega
  ·rw[if_neg h4,eH]at hsn
   repeat(refine Jy ?_;try intro b)
   rw[←hsn];refine End.bK hK1 (q+1,ao,ac) ?_ ?_
   ·simp only;omega
   ·simp only;omega
 ·obtain rfl:q=m.us.length:=by omega
  repeat(refine Jy ?_)
  (refine End.aH ((ao,ac)) (he:=Jv) (hp:=?_));trivial
theorem aGf(m:ML)(hu:m.us.length≤1000):Fn Tryz.prog 9 #[m.val] [md m] [] (σ:=Option Addr×Nat) (fun _=>True) (fun s=> .slice s.1 (Vm.tasks m.aC).length s.2) (fun s=>[arr s.1 (Vm.tasks m.aC).length s.2 3 eC (Vm.tasks m.aC)]):=by
 rw[zS];refine JE [m.val] Tryz.func9 Tryz.ntmps9 fun w S=>?_
 (refine Jn ?_)
 repeat(refine Jy ?_;try intro b)
 obtain⟨mb,rfl⟩:∃x,x=b:=⟨_,rfl⟩;apply aB.imp (fun w hm=>hm.bY 3 eC);refine aB.only ((fun z=>[aI w S,md m,aD mb (fN m) 26,arr z.2.1 ((List.range z.1).filter (j3 m)).length z.2.2 3 eC ((List.range z.1).filter (j3 m))]) (0,none,0)) (aK) ?_;apply aB.loop (σ:=Nat×Option Addr×Nat) (fun z=>z.1≤m.us.length) (fun z=>[(1,ptr mb),(3, .slice z.2.1 ((List.range z.1).filter (j3 m)).length z.2.2),(7, .slice m.uo m.us.length m.uc),(8, .int .i64 (m.us.length:Int)),(9, .int .i64 (z.1:Int))]) (fun z=>[aI w S,md m,aD mb (fN m) 26,arr z.2.1 ((List.range z.1).filter (j3 m)).length z.2.2 3 eC ((List.range z.1).filter (j3 m))]) (fun z=>m.us.length-z.1) (0,none,0)
 rotate_left
 exact sb;exact aK;intro z hz K1 hK1;(refine Jn ?_)
 rotate_left
 ·exact bP _
 obtain⟨q,ao,ac⟩:=z;simp only at hz hK1⊢;have htl:=zT m q
 by_cases hq:q<m.us.length
 ·have hsn:=WE m q
  by_cases h4:(m.us.getD q default).u.kind=4
  ·rw[if_pos h4]at hsn;have hsl:((List.range (q+1)).filter (j3 m)).length=((List.range q).filter (j3 m)).length+1:=by rw[hsn];simp
   repeat(refine Jy ?_;try first|intro ao cap|intro b)
   rw[←hsn,←hsl];refine End.bK hK1 (q+1,ao,cap) ?_ ?_
   ·simp only;omega
   ·simp only;omega
  ·rw[if_neg h4,eH]at hsn
   repeat(refine Jy ?_;try intro b)
   rw[←hsn];refine End.bK hK1 (q+1,ao,ac) ?_ ?_
   ·simp only;omega
   ·simp only;omega
 ·obtain rfl:q=m.us.length:=by omega
  repeat(refine Jy ?_)
  (refine End.aH ((ao,ac)) (he:=Jv) (hp:=?_));trivial
section
attribute [local irreducible] Fr.letter Fr.digit Fr.word
theorem y0(t:List UInt8):Fn Tryz.prog 130 #[sv t] [bN] [] (σ:=Unit) (fun _=>True) (fun _=> .bool (Fr.named t)) (fun _=>[]):=by
 refine JE [sv t] Tryz.func130 Tryz.ntmps130 fun w S=>?_;refine Jn ?_
 have hf:(¬t.length<1∧¬12<t.length∧Fr.letter (t.getD 0 0)=true∧Go.Lib.contains Fr.CY ([32] ++t ++[32])=false)→Fr.named t=decide (Fr.eO Fr.word t=t.length):=fun⟨a,b,c,d⟩=>by
  unfold Fr.named;rw[show t.headD 0=t.getD 0 0 by cases t<;>rfl,c,d,decide_eq_true (show 1≤t.length by omega),decide_eq_true (show t.length≤12 by omega)];rfl
 have hn:¬(¬t.length<1∧¬12<t.length∧Fr.letter (t.getD 0 0)=true∧Go.Lib.contains Fr.CY ([32] ++t ++[32])=false)→Fr.named t=false:=fun h=>by
  rw[←Bool.not_eq_true];intro hh;unfold Fr.named at hh;rw[show t.headD 0=t.getD 0 0 by cases t<;>rfl]at hh;simp only[JX,JV,Bool.not_eq_true']at hh;exact h ⟨by omega,by omega,hh.1.1.2,hh.1.2⟩
 by_cases h1:t.length<1
 ·repeat(refine Fy ?_)
  exact End.aH () (he:=by rw[hn (fun h=>h.1 h1)]) (hp:=trivial)
 by_cases h2:12<t.length
 ·repeat(refine Fy ?_)
  exact End.aH () (he:=by rw[hn (fun h=>h.2.1 h2)]) (hp:=trivial)
 repeat(refine Fy ?_)
 refine JQ (EI (t.getD 0 0)) ?_;intro s hs;refine Jn ?_
 cases h3:Fr.letter (t.getD 0 0)with
 |false=>
  repeat(refine Fy ?_)
  exact End.aH () (he:=by rw[hn (fun h=>by rw[h3]at h;cases h.2.2.1)]) (hp:=trivial)
 |true=>
  repeat(refine Fy ?_)
  refine aE.gL (h:=?_);refine aA.aZ (spec:=aGh Fr.CY ([32] ++t ++[32]) (by decide)) (r:=fun w=> .any tk I1 .nil) (k:=?_);intro s hs;refine Jn ?_
  cases h4:Go.Lib.contains Fr.CY ([32] ++t ++[32])with
  |true=>
   repeat(refine Fy ?_)
   exact End.aH () (he:=by rw[hn (fun h=>by rw[h4]at h;cases h.2.2.2)]) (hp:=trivial)
  |false=>
   repeat(refine Fy ?_)
   refine JQ (GO t (by omega) _ _ X9.2 (by kernel_rfl)) ?_;intro s hs;refine Jn ?_
   repeat(refine Fy ?_)
   exact End.aH () (he:=by rw[hf ⟨h1,h2,h3,h4⟩];exact iP (decide_eq_decide.2 Int.ofNat_inj)) (hp:=trivial)
end
theorem S1(l:List UInt8)(c:UInt8):Fr.numOf (l ++[c])=Fr.numOf l*10+((c.toNat:Int)-48):=by simp[Fr.numOf]
theorem ID{c:UInt8}(h:Fr.digit c=true):48≤c.toNat∧c.toNat≤57:=by simpa[Fr.digit]using h
theorem LJ(t:List UInt8)(hd:∀c∈t,Fr.digit c=true):∀k,k≤t.length→0≤Fr.numOf (t.take k)∧Fr.numOf (t.take k)<((10^k:Nat):Int)
 |0,_=>by simp[Fr.numOf]
 |k+1,h=>by
  obtain⟨h1,h2⟩:=LJ t hd k (by omega);have h3:=ID (hd _ (dQ (show k<t.length by omega)));rw[mI (by omega),S1,Nat.pow_succ];omega
theorem aDw(t:List UInt8)(h0:0<t.length)(ht:t.length≤15)(hd:∀c∈t,Fr.digit c=true):Fn Tryz.prog 149 #[sv t, .int .i64 10, .int .i64 64] [] [] (σ:=Unit) (fun _=>True) (fun _=> .tuple #[.int .u64 (Fr.numOf t), .nilIface]) (fun _=>[]):=by
 refine JE [sv t, .int .i64 10, .int .i64 64] Tryz.func149 Tryz.ntmps149 fun w S=>?_;refine Jn ?_
 have hne:decide (t=([]:List UInt8))=false:=by cases t<;>simp_all
 repeat(refine Fy ?_)
 apply aE.op (by exact rfl);refine aA.b8 (h:=Still.shl (z:=0) rfl rfl (by decide) rfl) (k:=?_)
 repeat(refine Fy ?_)
 apply aE.op (by exact rfl);refine aA.bytesOf rfl rfl rfl rfl (by omega) rfl (fun ao c=>?_)
 repeat(refine Fy ?_)
 refine aB.only ((fun k=>[aI w S,rd ao t.length c uK t]) 0) (aK) ?_;apply aB.loop (σ:=Nat) (fun k=>k≤t.length) (fun k=>[(0,sv t),(1, .int .i64 10),(8, .bool false),(10, .int .u64 1844674407370955162),(11, .int .u64 18446744073709551615),(12, .bool false),(13, .int .u64 (Fr.numOf (t.take k))),(99, .slice ao t.length c),(100, .int .i64 (t.length:Int)),(101, .int .i64 (k:Int))]) (fun k=>[aI w S,rd ao t.length c uK t]) (fun k=>t.length-k) 0
 rotate_left
 exact sb;exact aK;intro k hk K hK;(refine Jn ?_)
 rotate_left
 ·exact bP _
 obtain⟨n1,n2⟩:=LJ t hd k hk;have n3:10^k≤1000000000000000:=Nat.pow_le_pow_right (j:=15) (by decide) (by omega)
 by_cases h:k<t.length
 ·obtain⟨d1,d2⟩:=ID (hd _ (dQ h));have hs:=mI h;have hnx:Fr.numOf (t.take (k+1))=Fr.numOf (t.take k)*10+(((t.getD k default).toNat:Int)-48):=by rw[hs,S1]
  clear hs;generalize 10^k=X at n2 n3;generalize Fr.numOf (t.take k)=n at hnx n1 n2⊢
  repeat(refine Fy ?_)
  rw[show n*10+(((t.getD k default).toNat:Int)-48)=Fr.numOf (t.take (k+1))from hnx.symm];exact End.bK hK (k+1) h (by omega)
 ·obtain rfl:k=t.length:=by omega
  repeat(refine Fy ?_)
  exact End.oO () (he:=by rw[l4]) (hp:=trivial)
theorem aDu(t:List UInt8)(h0:0<t.length)(ht:t.length≤15)(hd:∀c∈t,Fr.digit c=true):Fn Tryz.prog 126 #[sv t, .int .i64 10, .int .i64 64] [] [] (σ:=Unit) (fun _=>True) (fun _=> .tuple #[.int .i64 (Fr.numOf t), .nilIface]) (fun _=>[]):=by
 refine JE [sv t, .int .i64 10, .int .i64 64] Tryz.func126 Tryz.ntmps126 fun w S=>?_;refine Jn ?_
 have hne:decide (t=([]:List UInt8))=false:=by cases t<;>simp_all
 obtain⟨d1,d2⟩:=ID (hd _ (dQ h0));rw[show(default:UInt8)=0 from rfl]at d1 d2;obtain⟨n1,n2⟩:=LJ t hd t.length (cG _);rw[l4]at n1 n2;have n3:10^t.length≤1000000000000000:=Nat.pow_le_pow_right (j:=15) (by decide) (by omega)
 repeat(refine Fy ?_)
 refine JQ (aDw t h0 ht hd) ?_;intro s hs;refine Jn ?_
 repeat(refine Fy ?_)
 apply aE.op (by exact rfl);refine aA.b8 (h:=Still.shl (z:=9223372036854775808) rfl rfl (by decide) rfl) (k:=?_)
 repeat(refine Fy ?_)
 exact End.oO () (he:=rfl) (hp:=trivial)
theorem aDv(t:List UInt8)(h0:0<t.length)(ht:t.length≤15)(hd:∀c∈t,Fr.digit c=true):Fn Tryz.prog 87 #[sv t, .int .i64 10, .int .i64 64] [] [] (σ:=Unit) (fun _=>True) (fun _=> .tuple #[.int .i64 (Fr.numOf t), .nilIface]) (fun _=>[]):=by
 refine JE [sv t, .int .i64 10, .int .i64 64] Tryz.func87 Tryz.ntmps87 fun w S=>?_;refine Jn ?_
 repeat(refine Fy ?_)
 refine JQ (aDu t h0 ht hd) ?_;intro s hs;refine Jn ?_
 repeat(refine Fy ?_)
 exact End.oO () (he:=rfl) (hp:=trivial)
end
end Vw
end Go.Proofs.YtofckcabpchcmaaGreatDoor
