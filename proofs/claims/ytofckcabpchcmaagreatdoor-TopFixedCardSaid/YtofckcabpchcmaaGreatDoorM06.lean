/- What package verify computes, in plain Lean. -/
import Derived.Test.YtofckcabpchcmaaGreatDoorM05
set_option linter.unusedVariables false
set_option linter.unusedSimpArgs false
set_option linter.unusedSectionVars false
set_option maxRecDepth 100000
namespace Go.Proofs.YtofckcabpchcmaaGreatDoor
namespace Ver
open ImgM
def plain(t:Int):Bool:=decide (t=1)||decide (t=2)
def isUnit(M:aG)(i kind:Int):Bool:=decide (0≤i)&&decide (i<(M.aL.length:Int))&&decide ((M.aL.getD i.toNat default).kind=kind)
def handle(M:aG)(t:Int):Bool:=decide (10≤t)&&isUnit M (t-10) 3
def kB(b:Bool):Int:=if b then 0 else 3
def gP(M:aG)(u:bS)(i:aY):Int:=
 if i.op=2 then kB (decide (i.a=0)||decide (i.a=1))
 else if i.op=3∨i.op=4 then kB (decide (0≤i.a)&&decide (i.a<(u.locals.length:Int)))
 else if i.op=21∨i.op=22 then kB (decide (0≤i.a)&&decide (i.a<(u.code.length:Int)))
 else if i.op=23 then kB (isUnit M i.a 2)
 else if i.op=29 then kB (isUnit M i.a 3)
 else if i.op=26∨i.op=27 then kB (decide (0≤i.a)&&decide (i.a<(M.boxes.length:Int)))
 else if i.op<1∨32<i.op then 1 else 0
def head(M:aG)(u:bS):Int:=
 if u.kind≠2∧u.kind≠3∧u.kind≠4 then 1
 else if 200<u.locals.length∨u.params<0∨6<u.params∨(u.locals.length:Int)<u.params∨(u.kind=4∧0<u.params)then 5
 else if u.code.length<1∨4000<u.code.length then 5
 else if(u.kind≠4∧plain u.result=false)∨(u.kind=3∧plain u.aS=false)then 9
 else if u.locals.any (fun t=>!plain t&& !handle M t)then 9
 else 0
structure kF where
 err:Int
 unit:Int
 at_:Int
deriving DecidableEq,Inhabited
def kF.ok:kF:=⟨0,0,0⟩
def boxes:Nat→List (Int×Int)→kF
 |_,[]=> .ok
 |i,b::r=>if plain b.1=false then⟨9,0,i⟩else if b.2<1∨20<b.2 then⟨3,0,i⟩else boxes (i+1) r
def pU(M:aG)(u:bS)(k:Nat):Nat→List aY→kF
 |_,[]=> .ok
 |j,i::r=>if gP M u i≠0 then⟨gP M u i,k,j⟩else pU M u k (j+1) r
def unit(M:aG)(k:Nat)(u:bS):kF:=if head M u≠0 then⟨head M u,k,0⟩else pU M u k 0 u.code
def aL(M:aG):Nat→List bS→kF
 |_,[]=> .ok
 |k,u::r=>if(unit M k u).err≠0 then unit M k u else aL M (k+1) r
def form(M:aG):kF:=
 if 30<M.boxes.length∨30<M.aL.length then⟨5,0,0⟩
 else if(boxes 0 M.boxes).err≠0 then boxes 0 M.boxes
 else if(aL M 0 M.aL).err≠0 then aL M 0 M.aL
 else if(M.aL.filter (fun u=>decide (u.kind=4))).length=0 then⟨6,0,0⟩
 else .ok
abbrev Shape:=List Int×List Bool
structure aX where
 at_:List (Int×Shape)
 todo:List Int
 stack:List Int
 has:List Bool
 err:Int
deriving Inhabited,DecidableEq
def find(l:List (Int×Shape))(k:Int):Option Shape:=(l.find? (fun p=>decide (p.1=k))).map (·.2)
def put:List (Int×Shape)→Int→Shape→List (Int×Shape)
 |[],k,s=>[(k,s)]
 |p::r,k,s=>if p.1=k then(p.1,s)::r else p::put r k s
def fail(e:Int)(f:aX):aX:=if f.err=0 then{f with err:=e}else f
def push(t:Int)(f:aX):aX:=if 300<f.stack.length+1 then fail 4 {f with stack:=f.stack ++[t]}else{f with stack:=f.stack ++[t]}
def pop(f:aX):Int×aX:=if f.stack.length=0 then(0,fail 12 f)else(f.stack.getD (f.stack.length-1) 0,{f with stack:=f.stack.take (f.stack.length-1)})
def mN(t:Int)(f:aX):aX:=if(pop f).1≠t then fail 9 (pop f).2 else(pop f).2
def want(l:List Int)(f:aX):aX:=l.foldr mN f
def meet:List Bool→List Bool→List Bool
 |a::r,b::s=>(a&&b)::meet r s
 |_,_=>[]
def to(n:Nat)(p:Int)(f:aX):aX:=
 if f.err≠0 then f
 else if p=(n:Int)then fail 3 f
 else match find f.at_ p with
  |none=>{f with at_:=f.at_ ++[(p,(f.stack,f.has))],todo:=f.todo ++[p]}
  |some s=>if s.1≠f.stack then fail 8 f else if meet s.2 f.has=s.2 then f else{f with at_:=put f.at_ p (s.1,meet s.2 f.has),todo:=f.todo ++[p]}
def args(M:aG)(k:Int)(f:aX):aX:=want ((M.aL.getD k.toNat default).locals.take (M.aL.getD k.toNat default).params.toNat) f
def gen(M:aG)(f:aX):Option Int×aX:=
 if(pop f).2.err≠0 then(none,(pop f).2)
 else if handle M (pop f).1=false then(none,fail 9 (pop f).2)
 else(some ((pop f).1-10),(pop f).2)
def done(f:aX):aX:=if f.stack.length=0 then f else fail 12 f
def eS(M:aG)(u:bS)(i:aY)(f:aX):Bool×aX:=
 if i.op=23 then(true,push (M.aL.getD i.a.toNat default).result (args M i.a f))
 else if i.op=29 then(true,push (10+i.a) (args M i.a f))
 else if i.op=24 then(false,done (want [u.result] (if u.kind≠2 then fail 8 f else f)))
 else if i.op=25 then(false,done (if u.kind=2 then fail 8 f else f))
 else if i.op=26 then(true,want [(M.boxes.getD i.a.toNat default).1] f)
 else if i.op=27 then(true,push (M.boxes.getD i.a.toNat default).1 f)
 else if i.op=28 then(true,if(pop f).2.err=0∧plain (pop f).1=false then fail 9 (pop f).2 else(pop f).2)
 else if i.op=30 then(true,match gen M (pop f).2 with
  |(none,g)=>g
  |(some k,g)=>push (M.aL.getD k.toNat default).result (if(pop f).1≠(M.aL.getD k.toNat default).aS then fail 9 g else g))
 else if i.op=31 then(true,push u.aS (want [u.result] (if u.kind≠3 then fail 8 f else f)))
 else if i.op=32 then(true,push 2 (gen M f).2)
 else(true,f)
def step(M:aG)(u:bS)(i:aY)(f:aX):Bool×aX:=
 if i.op=1 then(true,push 1 f)
 else if i.op=2 then(true,push 2 f)
 else if i.op=3 then(true,push (u.locals.getD i.a.toNat 0) (if f.has.getD i.a.toNat false then f else fail 11 f))
 else if i.op=4 then(true,{want [u.locals.getD i.a.toNat 0] f with has:=(want [u.locals.getD i.a.toNat 0] f).has.set i.a.toNat true})
 else if i.op=5 then(true,(pop f).2)
 else if i.op=6 then(true,push 1 (want [1] f))
 else if i.op=7 then(true,push 2 (want [2] f))
 else if 8≤i.op∧i.op≤12 then(true,push 1 (want [1,1] f))
 else if i.op=13∨i.op=14 then(true,push 2 (want [(pop f).1] (if(pop f).1≠1∧(pop f).1≠2 then fail 9 (pop f).2 else(pop f).2)))
 else if 15≤i.op∧i.op≤18 then(true,push 2 (want [1,1] f))
 else if i.op=19∨i.op=20 then(true,push 2 (want [2,2] f))
 else if i.op=21 then(false,to u.code.length i.a f)
 else if i.op=22 then(true,to u.code.length i.a (want [2] f))
 else eS M u i f
def round(M:aG)(u:bS)(p:Int)(r:List Int)(f:aX):aX:=
 let s:=(find f.at_ p).getD ([],[])
 let g:=step M u (u.code.getD p.toNat default) {f with todo:=r,stack:=s.1,has:=s.2}
 if g.1 then to u.code.length (p+1) g.2 else g.2
def run(M:aG)(u:bS)(k:Nat):Nat→aX→kF
 |0,_=> .ok
 |n+1,f=>match f.todo with
  |[]=> .ok
  |p::r=>if(round M u p r f).err≠0 then⟨(round M u p r f).err,k,p⟩else run M u k n (round M u p r f)
def fV(u:bS):Nat:=2*(u.code.length*(u.locals.length+1))+1
def start(u:bS):aX:=to u.code.length 0 ⟨[],[],[],(List.replicate u.params.toNat true ++List.replicate (u.locals.length-u.params.toNat) false),0⟩
def code(M:aG)(k:Nat):kF:=run M (M.aL.getD k default) k (fV (M.aL.getD k default)) (start (M.aL.getD k default))
def lS(M:aG):Nat→Nat→kF
 |_,0=> .ok
 |k,n+1=>if(code M k).err≠0 then code M k else lS M (k+1) n
def calls(l:List aY)(out:List Int):List Int:=l.foldl (fun out i=>if(i.op=23∨i.op=29)∧i.a∉out then out ++[i.a]else out) out
def n8(M:aG):Nat→Nat→List Int→List Int
 |0,_,out=>out
 |n+1,k,out=>if k<out.length then n8 M n (k+1) (calls (M.aL.getD (out.getD k 0).toNat default).code out)else out
def reach(M:aG)(task:Nat):List Int:=n8 M (M.aL.length+1) 0 [(task:Int)]
def hY(M:aG)(op b:Int)(task:Nat):Bool:=(reach M task).any fun x=>(M.aL.getD x.toNat default).code.any fun i=>decide (i.op=op)&&decide (i.a=b)
def jR(M:aG)(op b:Int):Nat:=((List.range M.aL.length).filter fun k=>decide ((M.aL.getD k default).kind=4)&&hY M op b k).length
def owned(M:aG):Nat→Nat→kF
 |_,0=> .ok
 |b,n+1=>if 1<jR M 26 b∨1<jR M 27 b then⟨8,0,b⟩else owned M (b+1) n
def verify(M:aG):kF:=
 if(form M).err≠0 then form M
 else if(lS M 0 M.aL.length).err≠0 then lS M 0 M.aL.length
 else owned M 0 M.boxes.length
end Ver
namespace Vw
open Go.RowKit Img
section
attribute [local irreducible] aE aB End aA Still aM aP RunT Fn aO
abbrev ck(cb mb:Nat)(m:ML):List Chunk:=[aD cb [.pointer (some ⟨mb,0,none⟩)] 128,aD mb [.slice m.bo m.bx.length m.bc, .slice m.uo m.us.length m.uc] 26]
abbrev ptr(b:Nat):Value:= .pointer (some ⟨b,0,none⟩)
theorem iP{a b:Bool}(h:a=b):Value.bool a=Value.bool b:=by rw[h]
theorem int_eq{k:IntKind}{a b:Int}(h:a=b):Value.int k a=Value.int k b:=by rw[h]
theorem CC(t:Int):Fn Tryz.prog 71 #[.int .i64 t] [] [] (σ:=Unit) (fun _=>True) (fun _=> .bool (Ver.plain t)) (fun _=>[]):=by
 refine JE [.int .i64 t] Tryz.func71 Tryz.ntmps71 fun w S=>?_
 (refine Jn ?_)
 repeat' (first|refine Jo ?_|(refine JB ?_;intro b)|(refine JA ?_;intro ao cap)|refine gG (k:=fun h=>?_) (k':=fun h=>?_)|fail)
 all_goals ((refine End.aH (()) (he:=by refine iP ?_;(first|(simp[Ver.plain, *];done)|(simp[Ver.plain];omega)|(rw[rI];simp[Ver.plain];omega)|(simp[Ver.plain, *];intros;omega))) (hp:=?_));trivial)
theorem W8(cb mb:Nat)(m:ML)(i k:Int):Fn Tryz.prog 114 #[ptr cb, .int .i64 i, .int .i64 k] [md m] (ck cb mb m) (σ:=Unit) (fun _=>True) (fun _=> .bool (Ver.isUnit m.aC i k)) (fun _=>ck cb mb m):=by
 refine JE [ptr cb, .int .i64 i, .int .i64 k] Tryz.func114 Tryz.ntmps114 fun w S=>?_
 (refine Jn ?_)
 repeat' (first|refine Jo ?_|(refine JB ?_;intro b)|(refine JA ?_;intro ao cap)|refine gG (k:=fun h=>?_) (k':=fun h=>?_)|fail)
 all_goals ((refine End.aH (()) (he:=by refine iP ?_;(first|(simp[Ver.isUnit,wT, *];done)|(simp[Ver.isUnit,wT];omega)|(rw[rI];simp[Ver.isUnit,wT];omega)|(simp[Ver.isUnit,wT, *];intros;omega))) (hp:=?_));trivial)
theorem RG(cb mb:Nat)(m:ML)(t:Int)(ht:ImgM.bG t):Fn Tryz.prog 113 #[ptr cb, .int .i64 t] [md m] (ck cb mb m) (σ:=Unit) (fun _=>True) (fun _=> .bool (Ver.handle m.aC t)) (fun _=>ck cb mb m):=by
 unfold ImgM.bG at ht;refine JE [ptr cb, .int .i64 t] Tryz.func113 Tryz.ntmps113 fun w S=>?_
 (refine Jn ?_)
 repeat' (first|(refine Jc ?_;refine aA.aZ (spec:=W8 cb mb m _ _) (k:=?_);intro s hs;(refine Jn ?_))|refine Jo ?_|(refine JB ?_;intro b)|(refine JA ?_;intro ao cap)|refine gG (k:=fun h=>?_) (k':=fun h=>?_)|fail)
 all_goals ((refine End.aH (()) (he:=by refine iP ?_;(first|(simp[Ver.handle, *];done)|(simp[Ver.handle];omega)|(rw[rI];simp[Ver.handle];omega)|(simp[Ver.handle, *];intros;omega))) (hp:=?_));trivial)
theorem aBe(cb mb pb:Nat)(m:ML)(t:Int)(ht:ImgM.bG t):Fn Tryz.prog 112 #[.int .i64 t,ptr pb] [md m] (aD pb [ptr cb] 126::ck cb mb m) (σ:=Unit) (fun _=>True) (fun _=> .bool (!Ver.plain t&& !Ver.handle m.aC t)) (fun _=>aD pb [ptr cb] 126::ck cb mb m):=by
 refine JE [.int .i64 t,ptr pb] Tryz.func112 Tryz.ntmps112 fun w S=>?_
 (refine Jn ?_)
 repeat' (first|(refine Jc ?_;refine aA.aZ (spec:=CC _) (k:=?_);intro s hs;(refine Jn ?_))|(refine Jc ?_;refine aA.aZ (spec:=RG cb mb m _ ht) (k:=?_);intro s hs;(refine Jn ?_))|refine Jo ?_|(refine JB ?_;intro b)|(refine JA ?_;intro ao cap)|refine gG (k:=fun h=>?_) (k':=fun h=>?_)|fail)
 all_goals ((refine End.aH (()) (he:=by refine iP ?_;(first|(simp[*];done)|(simp[];omega)|(rw[rI];simp[];omega)|(simp[*];intros;omega))) (hp:=?_));trivial)
theorem aBn(ao:Option Addr)(n cap:Nat)(l:List Int)(hn:l.length=n)(hm:n≤9223372036854775807)(f:FuncId)(cp:List Value)(r:Chunk)(hr:r.bB=false)(pre:List Chunk)(hpx:∀c∈pre,c.bB=true)(p:Int→Bool)(hc:fM Tryz.prog f=true)
  (hf:∀x∈l,Fn Tryz.prog f (#[.int .i64 x] ++cp.toArray) [r] pre (σ:=Unit) (fun _=>True) (fun _=> .bool (p x)) (fun _=>pre)):
  Fn Tryz.prog 122 #[.slice ao n cap, .func (.func f) #[] cp.toArray] [rd ao n cap aT l,r] pre (fun s:Int=>decide (0≤s)=l.any p) (fun s=> .int .i64 s) (fun _=>pre):=by
 refine Fn.enter (args:=[.slice ao n cap, .func (.func f) #[] cp.toArray]) Tryz.func122 rfl _ Tryz.ntmps122 rfl (by simp[fP,hr]) (fun w S=>?_);(refine Jn ?_)
 repeat(refine Jy ?_)
 apply aB.loop (σ:=Nat) (fun k=>k≤n∧∀j,j<k→p (l.getD j default)=false) (fun k=>[(0, .slice ao n cap),(1, .func (.func f) #[] cp.toArray),(7, .int .i64 (n:Int)),(8, .int .i64 (k:Int))]) (fun _=>aI w S::rd ao n cap aT l::r::pre) (fun k=>n-k) 0
 rotate_left
 exact sb;exact aQ.all _;intro k hs K hK;obtain⟨hk,hfn⟩:=hs
 rotate_left
 exact⟨by omega,fun j hj=>by omega⟩;simp only[eH]
 repeat(refine Jy ?_)
 by_cases h:k<n
 ·have hx:l.getD k default∈l:=by
   rw[Jd,Je (by omega:k<l.length)];exact fB _
  repeat(refine Jy ?_)
  refine aE.op (by exact rfl) (aA.call (hx:=by exact rfl) (hv:=m4) (hc:=hc) (hd:=by exact rfl) (spec:=hf _ hx) (t:= .skip (.skip (.skip (.all _)))) (r:=fun w=> .any tk hr .nil) (k:=?_));intro s hs
  cases hp:p (l.getD k default)with
  |true=>
   repeat(refine Jy ?_)
   refine End.wL (k:Int) (by exact rfl) (by exact rfl) rfl ?_ hpx .x6 rfl;have:l.any p=true:=qD.2 ⟨_,hx,hp⟩;rw[this];simp
  |false=>
   repeat(refine Jy ?_)
   refine End.round hK (k+1) ⟨by omega,fun j hj=>?_⟩ (by omega) sb .back
   by_cases hjk:j=k
   ·subst hjk;exact hp
   ·exact hfn j (by omega)
 ·repeat(refine Jy ?_)
  refine End.wL (-1:Int) (by exact rfl) (by exact rfl) rfl ?_ hpx (.cons .head (.skip (.skip (.all _)))) rfl;have:l.any p=false:=by
   rw[tX];intro x hx;obtain⟨j,hj,rfl⟩:=mS hx;have:=hfn j (by omega);rw[Jd,Je hj]at this;simpa using this
  rw[this];rfl
theorem PL(ao:Option Addr)(n cap:Nat)(l:List Int)(hn:l.length=n)(hm:n≤9223372036854775807)(f:FuncId)(cp:List Value)(r:Chunk)(hr:r.bB=false)(pre:List Chunk)(hpx:∀c∈pre,c.bB=true)(p:Int→Bool)(hc:fM Tryz.prog f=true)
  (hf:∀x∈l,Fn Tryz.prog f (#[.int .i64 x] ++cp.toArray) [r] pre (σ:=Unit) (fun _=>True) (fun _=> .bool (p x)) (fun _=>pre)):
  Fn Tryz.prog 77 #[.slice ao n cap, .func (.func f) #[] cp.toArray] [rd ao n cap aT l,r] pre (σ:=Unit) (fun _=>True) (fun _=> .bool (l.any p)) (fun _=>pre):=by
 refine Fn.enter (args:=[.slice ao n cap, .func (.func f) #[] cp.toArray]) Tryz.func77 rfl _ Tryz.ntmps77 rfl (by simp[fP,hr]) (fun w S=>?_);(refine Jn ?_)
 repeat(refine Jy ?_)
 refine aE.op (by exact rfl) (aA.HT (hx:=by exact rfl) (hv:=m4) (hc:=by kernel_rfl) (hd:=by exact rfl) (spec:=aBn ao n cap l hn hm f cp r hr pre hpx p hc hf) (t:= .skip (.skip (.skip (.all _)))) (r:=fun w=> .rd tk (.any tk hr .nil)) (k:=?_));intro s hs
 repeat(refine Jy ?_)
 exact End.wL () (by exact rfl) (by exact rfl) (iP hs) trivial hpx .x6 rfl
theorem aBo(ao:Option Addr)(n cap:Nat)(l:List ImgM.aY)(hn:l.length=n)(hm:n≤9223372036854775807)(f:FuncId)(cp:List Value)(r:Chunk)(hr:r.bB=false)(pre:List Chunk)(hpx:∀c∈pre,c.bB=true)(p:ImgM.aY→Bool)(hc:fM Tryz.prog f=true)
  (hf:∀x∈l,Fn Tryz.prog f (#[.agg (dV x).toArray] ++cp.toArray) [r] pre (σ:=Unit) (fun _=>True) (fun _=> .bool (p x)) (fun _=>pre)):
  Fn Tryz.prog 124 #[.slice ao n cap, .func (.func f) #[] cp.toArray] [rd ao n cap dV l,r] pre (fun s:Int=>decide (0≤s)=l.any p) (fun s=> .int .i64 s) (fun _=>pre):=by
 refine Fn.enter (args:=[.slice ao n cap, .func (.func f) #[] cp.toArray]) Tryz.func124 rfl _ Tryz.ntmps124 rfl (by simp[fP,hr]) (fun w S=>?_);(refine Jn ?_)
 repeat(refine Jy ?_)
 apply aB.loop (σ:=Nat) (fun k=>k≤n∧∀j,j<k→p (l.getD j default)=false) (fun k=>[(0, .slice ao n cap),(1, .func (.func f) #[] cp.toArray),(7, .int .i64 (n:Int)),(8, .int .i64 (k:Int))]) (fun _=>aI w S::rd ao n cap dV l::r::pre) (fun k=>n-k) 0
 rotate_left
 exact sb;exact aQ.all _;intro k hs K hK;obtain⟨hk,hfn⟩:=hs
 rotate_left
 exact⟨by omega,fun j hj=>by omega⟩;simp only[eH]
 repeat(refine Jy ?_)
 by_cases h:k<n
 ·have hx:l.getD k default∈l:=by
   rw[Jd,Je (by omega:k<l.length)];exact fB _
  repeat(refine Jy ?_)
  refine aE.op (by exact rfl) (aA.call (hx:=by exact rfl) (hv:=m4) (hc:=hc) (hd:=by exact rfl) (spec:=hf _ hx) (t:= .skip (.skip (.skip (.all _)))) (r:=fun w=> .any tk hr .nil) (k:=?_));intro s hs
  cases hp:p (l.getD k default)with
  |true=>
   repeat(refine Jy ?_)
   refine End.wL (k:Int) (by exact rfl) (by exact rfl) rfl ?_ hpx .x6 rfl;have:l.any p=true:=qD.2 ⟨_,hx,hp⟩;rw[this];simp
  |false=>
   repeat(refine Jy ?_)
   refine End.round hK (k+1) ⟨by omega,fun j hj=>?_⟩ (by omega) sb .back
   by_cases hjk:j=k
   ·subst hjk;exact hp
   ·exact hfn j (by omega)
 ·repeat(refine Jy ?_)
  refine End.wL (-1:Int) (by exact rfl) (by exact rfl) rfl ?_ hpx (.cons .head (.skip (.skip (.all _)))) rfl;have:l.any p=false:=by
   rw[tX];intro x hx;obtain⟨j,hj,rfl⟩:=mS hx;have:=hfn j (by omega);rw[Jd,Je hj]at this;simpa using this
  rw[this];rfl
theorem aAI(ao:Option Addr)(n cap:Nat)(l:List ImgM.aY)(hn:l.length=n)(hm:n≤9223372036854775807)(f:FuncId)(cp:List Value)(r:Chunk)(hr:r.bB=false)(pre:List Chunk)(hpx:∀c∈pre,c.bB=true)(p:ImgM.aY→Bool)(hc:fM Tryz.prog f=true)
  (hf:∀x∈l,Fn Tryz.prog f (#[.agg (dV x).toArray] ++cp.toArray) [r] pre (σ:=Unit) (fun _=>True) (fun _=> .bool (p x)) (fun _=>pre)):
  Fn Tryz.prog 80 #[.slice ao n cap, .func (.func f) #[] cp.toArray] [rd ao n cap dV l,r] pre (σ:=Unit) (fun _=>True) (fun _=> .bool (l.any p)) (fun _=>pre):=by
 refine Fn.enter (args:=[.slice ao n cap, .func (.func f) #[] cp.toArray]) Tryz.func80 rfl _ Tryz.ntmps80 rfl (by simp[fP,hr]) (fun w S=>?_);(refine Jn ?_)
 repeat(refine Jy ?_)
 refine aE.op (by exact rfl) (aA.HT (hx:=by exact rfl) (hv:=m4) (hc:=by kernel_rfl) (hd:=by exact rfl) (spec:=aBo ao n cap l hn hm f cp r hr pre hpx p hc hf) (t:= .skip (.skip (.skip (.all _)))) (r:=fun w=> .rd tk (.any tk hr .nil)) (k:=?_));intro s hs
 repeat(refine Jy ?_)
 exact End.wL () (by exact rfl) (by exact rfl) (iP hs) trivial hpx .x6 rfl
theorem aBp(ao:Option Addr)(n cap:Nat)(l:List Int)(hn:l.length=n)(hm:n≤9223372036854775807)(v:Int):
  Fn Tryz.prog 148 #[.slice ao n cap, .int .i64 v] [rd ao n cap aT l] [] (fun s:Int=>decide (0≤s)=decide (v∈l)) (fun s=> .int .i64 s) (fun _=>[]):=by
 refine JE [.slice ao n cap, .int .i64 v] Tryz.func148 Tryz.ntmps148 fun w S=>?_
 (refine Jn ?_)
 repeat(refine Jy ?_)
 apply aB.loop (σ:=Nat) (fun k=>k≤n∧∀j,j<k→l.getD j default≠v) (fun k=>[(0, .slice ao n cap),(1, .int .i64 v),(7, .int .i64 (n:Int)),(8, .int .i64 (k:Int))]) (fun _=>[aI w S,rd ao n cap aT l]) (fun k=>n-k) 0
 rotate_left
 exact sb;exact aK;intro s hs K hK;(refine Jn ?_)
 rotate_left
 ·exact⟨by omega,fun j hj=>by omega⟩
 rename Nat=>k
 obtain⟨hk,hfn⟩:=hs
 by_cases h:k<n
 ·have hx:l.getD k default∈l:=by
   rw[Jd,Je (by omega:k<l.length)];exact fB _
  by_cases hv:v=l.getD k default
  ·repeat(refine Jy ?_)
   (refine End.aH ((k:Int)) (he:=Jv) (hp:=?_));rw[hv,decide_eq_true hx];simp
  ·repeat(refine Jy ?_)
   refine End.o3 hK (k+1) ?_ ?_
   ·refine⟨by omega,fun j hj=>?_⟩
    by_cases hjk:j=k
    ·subst hjk;exact fun h=>hv h.symm
    ·exact hfn j (by omega)
   ·omega
 ·repeat(refine Jy ?_)
  (refine End.aH ((-1:Int)) (he:=Jv) (hp:=?_));have:v∉l:=by
   intro hx;obtain⟨j,hj,rfl⟩:=mS hx;have:=hfn j (by omega);rw[Jd,Je hj]at this;simp at this
  simp[this]
theorem aAJ(ao:Option Addr)(n cap:Nat)(l:List Int)(hn:l.length=n)(hm:n≤9223372036854775807)(v:Int):
  Fn Tryz.prog 123 #[.slice ao n cap, .int .i64 v] [rd ao n cap aT l] [] (σ:=Unit) (fun _=>True) (fun _=> .bool (decide (v∈l))) (fun _=>[]):=by
 refine JE [.slice ao n cap, .int .i64 v] Tryz.func123 Tryz.ntmps123 fun w S=>?_
 (refine Jn ?_)
 repeat(refine Jy ?_)
 (refine JQ (aBp ao n cap l hn hm v) ?_;intro s hs;(refine Jn ?_))
 repeat(refine Jy ?_)
 (refine End.aH (()) (he:=by exact iP hs) (hp:=?_));trivial
theorem aCJ{l l':List Int}(n:Nat)(hn:l.length=n)(hm:l'.length=n)(h:∀j,j<n→l.getD j default=l'.getD j default):l=l':=
 mT (by omega) (fun j h1 h2=>by have:=h j (by omega);simpa[Jd,h1,h2]using this)
theorem aAm(ao bo:Option Addr)(n m cap cap':Nat)(l l':List Int)(hn:l.length=n)(hm:l'.length=m)(hn2:n≤9223372036854775807)(hm2:m≤9223372036854775807):
  Fn Tryz.prog 116 #[.slice ao n cap, .slice bo m cap'] [rd ao n cap aT l,rd bo m cap' aT l'] [] (σ:=Unit) (fun _=>True) (fun _=> .bool (decide (l=l'))) (fun _=>[]):=by
 refine JE [.slice ao n cap, .slice bo m cap'] Tryz.func116 Tryz.ntmps116 fun w S=>?_
 (refine Jn ?_)
 by_cases hnm:n=m
 ·subst hnm
  repeat(refine Jy ?_)
  apply aB.loop (σ:=Nat) (fun k=>k≤n∧∀j,j<k→l.getD j default=l'.getD j default) (fun k=>[(0, .slice ao n cap),(1, .slice bo n cap'),(12, .int .i64 (n:Int)),(13, .int .i64 (k:Int))]) (fun _=>[aI w S,rd ao n cap aT l,rd bo n cap' aT l']) (fun k=>n-k) 0
  rotate_left
  exact sb;exact aK;intro s hs K hK;(refine Jn ?_)
  rotate_left
  ·exact⟨by omega,fun j hj=>by omega⟩
  rename Nat=>k
  obtain⟨hk,hfn⟩:=hs
  by_cases h:k<n
  ·by_cases hv:l.getD k default=l'.getD k default
   ·repeat(refine Jy ?_)
    refine End.o3 hK (k+1) ?_ ?_
    ·refine⟨by omega,fun j hj=>?_⟩
     by_cases hjk:j=k
     ·subst hjk;exact hv
     ·exact hfn j (by omega)
    ·omega
   ·repeat(refine Jy ?_)
    (refine End.aH (()) (he:=by exact iP (Eq.symm (decide_eq_false (fun h=>hv (by rw[h]))))) (hp:=?_));trivial
  ·repeat(refine Jy ?_)
   (refine End.aH (()) (he:=by exact iP (Eq.symm (decide_eq_true (aCJ n hn hm (fun j hj=>hfn j (by omega)))))) (hp:=?_));trivial
 ·repeat(refine Jy ?_)
  (refine End.aH (()) (he:=by exact iP (Eq.symm (decide_eq_false (fun h=>hnm (by rw[←hn,←hm,h]))))) (hp:=?_));trivial
theorem aAD(ao:Option Addr)(n cap:Nat)(l:List Int)(hn:l.length=n)(hm:n≤1000000000):
  Fn Tryz.prog 34 #[.slice ao n cap] [rd ao n cap aT l] [] (σ:=Option Addr×Nat) (fun _=>True) (fun s=> .slice s.1 n s.2) (fun s=>[arr s.1 n s.2 3 aT l]):=by
 refine JE [.slice ao n cap] Tryz.func34 Tryz.ntmps34 fun w S=>?_
 (refine Jn ?_)
 cases ao with
 |none=>
  apply aB.fact (n=0) (fun w hm=>by
   obtain⟨⟨-, -,ao',cap',he, -,h4⟩, -⟩:=kA.1 (hm.has (.tail .head));rcases Nat.eq_zero_or_pos n with h|h
   ·exact h
   ·obtain⟨b,off,rfl, -⟩:=h4 h;simp at he)
  rintro rfl;obtain rfl:l=[]:=pE hn
  repeat(refine Jy ?_)
  apply End.imp (fun w hm=>hm.bY 3 aT);(refine End.aH ((none,0)) (he:=Jv) (hp:=?_));trivial
 |some a0=>
  repeat(refine Jy ?_;try intro b)
  apply aE.imp (fun w hm=>hm.mJ .head ([]:List Int) rfl rfl (by unfold maxLen;simp))
  repeat(refine Jy ?_)
  apply aE.op (by exact rfl);refine aA.wH (k:=?_);intro ao cap;simp only[uD,Jk]
  repeat(refine Jy ?_)
  (refine End.aH ((_,_)) (he:=Jv) (hp:=?_));trivial
theorem aAC(ao:Option Addr)(n cap:Nat)(l:List Bool)(hn:l.length=n)(hm:n≤1000000000):
  Fn Tryz.prog 117 #[.slice ao n cap] [rd ao n cap nP l] [] (σ:=Option Addr×Nat) (fun _=>True) (fun s=> .slice s.1 n s.2) (fun s=>[arr s.1 n s.2 4 nP l]):=by
 refine JE [.slice ao n cap] Tryz.func117 Tryz.ntmps117 fun w S=>?_
 (refine Jn ?_)
 cases ao with
 |none=>
  apply aB.fact (n=0) (fun w hm=>by
   obtain⟨⟨-, -,ao',cap',he, -,h4⟩, -⟩:=kA.1 (hm.has (.tail .head));rcases Nat.eq_zero_or_pos n with h|h
   ·exact h
   ·obtain⟨b,off,rfl, -⟩:=h4 h;simp at he)
  rintro rfl;obtain rfl:l=[]:=pE hn
  repeat(refine Jy ?_)
  apply End.imp (fun w hm=>hm.bY 4 nP);(refine End.aH ((none,0)) (he:=Jv) (hp:=?_));trivial
 |some a0=>
  repeat(refine Jy ?_;try intro b)
  apply aE.imp (fun w hm=>hm.mJ .head ([]:List Bool) rfl rfl (by unfold maxLen;simp))
  repeat(refine Jy ?_)
  apply aE.op (by exact rfl);refine aA.wH (k:=?_);intro ao cap;simp only[uD,Jk]
  repeat(refine Jy ?_)
  (refine End.aH ((_,_)) (he:=Jv) (hp:=?_));trivial
abbrev up(m:ML)(k:Nat):Value:= .pointer (place (sz mM) m.uo k 0)
abbrev kR(i:ImgM.aY):Value:= .agg (dV i).toArray
set_option maxHeartbeats 1000000 in
theorem aBt(cb mb:Nat)(m:ML)(k:Nat)(hk:k<m.us.length)(i:ImgM.aY):Fn Tryz.prog 73 #[ptr cb,up m k,kR i] [md m] (ck cb mb m) (σ:=Unit) (fun _=>True) (fun _=> .int .i64 (Ver.gP m.aC (m.us.getD k default).u i)) (fun _=>ck cb mb m):=by
 refine JE [ptr cb,up m k,kR i] Tryz.func73 Tryz.ntmps73 fun w S=>?_
 (refine Jn ?_)
 repeat' (first|(refine Jc ?_;refine aA.aZ (spec:=W8 cb mb m _ _) (k:=?_);intro s hs;(refine Jn ?_))|refine Jo ?_|(refine JB ?_;intro b)|(refine JA ?_;intro ao cap)|refine gG (k:=fun h=>?_) (k':=fun h=>?_)|fail)
 all_goals ((refine End.aH (()) (he:=by refine int_eq ?_;unfold Ver.gP;(first|(simp[Ver.kB,ML.aC, *];done)|((try simp only[Ver.kB,ML.aC]);(repeat' split);all_goals (first|rfl|omega|(simp_all;done)|(simp_all;omega))))) (hp:=?_));trivial)
structure SH where
 st:List Int
 so:Option Addr
 sc:Nat
 hs:List Bool
 ho:Option Addr
 hc:Nat
instance:Inhabited SH:=⟨⟨[],none,0,[],none,0⟩⟩
def oB(x:SH):Value:= .agg #[.slice x.so x.st.length x.sc, .slice x.ho x.hs.length x.hc]
structure FS where
 st:List Int
 so:Option Addr
 sc:Nat
 err:Int
structure FR where
 dI:List (Int×SH)
 todo:List Int
 to_:Option Addr
 tc:Nat
 has:List Bool
 ho:Option Addr
 hc:Nat
def FR.at_(r:FR):List (Int×Ver.Shape):=r.dI.map fun p=>(p.1,(p.2.st,p.2.hs))
def aN(r:FR)(s:FS):Ver.aX:=⟨r.at_,r.todo,s.st,r.has,s.err⟩
abbrev qN(cb ab:Nat)(u:Value)(r:FR)(s:FS):List Value:=
 [.pointer (some ⟨cb,0,none⟩),u, .map (some ab), .slice r.to_ r.todo.length r.tc, .slice s.so s.st.length s.sc, .slice r.ho r.has.length r.hc, .int .i64 s.err]
abbrev fm(fb cb ab:Nat)(u:Value)(r:FR)(s:FS):List Chunk:=[aD fb (qN cb ab u r s) 195,arr s.so s.st.length s.sc 3 aT s.st]
abbrev QD(e e0:Int):Int:=if e0=0 then e else e0
abbrev lT(e:Int)(s:FS):FS:=⟨s.st,s.so,s.sc,QD e s.err⟩
theorem m7(r:FR)(s:FS)(e:Int):aN r (lT e s)=Ver.fail e (aN r s):=by
 unfold Ver.fail aN
 by_cases h:s.err=0<;>simp[h]
theorem aBC(fb cb ab:Nat)(u:Value)(r:FR)(z:FS)(e E:Int)(hE:QD e z.err=E):Fn Tryz.prog 115 #[ptr fb, .int .i64 e] [] [aD fb (qN cb ab u r z) 195] (σ:=Unit) (fun _=>True) (fun _=> .tuple #[]) (fun _=>[aD fb (qN cb ab u r ⟨z.st,z.so,z.sc,E⟩) 195]):=by
 by_cases h0:z.err=0
 ·obtain rfl:E=e:=by rw[←hE];exact if_pos h0
  refine JE [ptr fb, .int .i64 E] Tryz.func115 Tryz.ntmps115 fun w S=>?_
  (refine Jn ?_)
  repeat(refine Jy ?_)
  (refine End.cY (()) (hp:=?_));trivial
 ·obtain rfl:E=z.err:=by rw[←hE];exact if_neg h0
  refine JE [ptr fb, .int .i64 e] Tryz.func115 Tryz.ntmps115 fun w S=>?_
  (refine Jn ?_)
  repeat(refine Jy ?_)
  (refine End.cY (()) (hp:=?_));trivial
theorem m5(fb cb ab:Nat)(u:Value)(r:FR)(z:FS)(e:Int):Fn Tryz.prog 115 #[ptr fb, .int .i64 e] [] [aD fb (qN cb ab u r z) 195] (σ:=Unit) (fun _=>True) (fun _=> .tuple #[]) (fun _=>[aD fb (qN cb ab u r (lT e z)) 195]):=aBC fb cb ab u r z e _ rfl
theorem xA(fb cb ab:Nat)(u:Value)(r:FR)(z:FS)(hl:z.st.length≤1000):Fn Tryz.prog 120 #[ptr fb] [] (fm fb cb ab u r z) (fun z'=>aN r z'=(Ver.pop (aN r z)).2) (fun _=> .int .i64 (Ver.pop (aN r z)).1) (fun z'=>fm fb cb ab u r z'):=by
 by_cases h0:z.st.length=0
 ·have hp:Ver.pop (aN r z)=(0,Ver.fail 12 (aN r z)):=by unfold Ver.pop;exact if_pos h0
  rw[hp];refine JE [ptr fb] Tryz.func120 Tryz.ntmps120 fun w S=>?_
  (refine Jn ?_)
  repeat(refine Jy ?_)
  (refine JQ (m5 fb cb ab u r z 12) ?_;intro s hs;(refine Jn ?_))
  repeat(refine Jy ?_)
  (refine End.aH ((lT 12 z)) (he:=Jv) (hp:=?_));exact m7 r z 12
 ·have hp:Ver.pop (aN r z)=(z.st.getD (z.st.length-1) default,{aN r z with stack:=z.st.take (z.st.length-1)}):=by unfold Ver.pop;exact if_neg h0
  rw[hp];have hn:IntKind.i64.wrap ((z.st.length:Int)-1)=((z.st.length-1:Nat):Int):=by rw[dA (by omega)];omega
  have hlen:(z.st.take (z.st.length-1)).length=z.st.length-1:=by simp
  refine JE [ptr fb] Tryz.func120 Tryz.ntmps120 fun w S=>?_
  (refine Jn ?_)
  repeat(refine Jy ?_;try intro ao cap)
  (refine End.aH ((⟨z.st.take (z.st.length-1),ao,cap,z.err⟩:FS)) (he:=Jv) (ht:=Jx) (hp:=?_));rfl
theorem iY(fb cb ab:Nat)(u:Value)(r:FR)(z:FS)(t:Int)(hl:z.st.length≤1000):Fn Tryz.prog 118 #[ptr fb, .int .i64 t] [] (fm fb cb ab u r z) (fun z'=>aN r z'=Ver.push t (aN r z)) (fun _=> .tuple #[]) (fun z'=>fm fb cb ab u r z'):=by
 by_cases h0:300<z.st.length+1
 ·have hp:Ver.push t (aN r z)=Ver.fail 4 {aN r z with stack:=z.st ++[t]}:=by unfold Ver.push;exact if_pos h0
  rw[hp];refine JE [ptr fb, .int .i64 t] Tryz.func118 Tryz.ntmps118 fun w S=>?_
  (refine Jn ?_)
  repeat(refine Jy ?_;try first|intro ao cap|intro b)
  (refine JH (m5 fb cb ab u r ⟨z.st ++[t],ao,cap,z.err⟩ 4) ?_;intro s hs;(refine Jn ?_))
  repeat(refine Jy ?_)
  (refine End.cY (lT 4 ⟨z.st ++[t],ao,cap,z.err⟩) (ht:=Jx) (hp:=?_));exact m7 r ⟨z.st ++[t],ao,cap,z.err⟩ 4
 ·have hp:Ver.push t (aN r z)={aN r z with stack:=z.st ++[t]}:=by unfold Ver.push;exact if_neg h0
  rw[hp];refine JE [ptr fb, .int .i64 t] Tryz.func118 Tryz.ntmps118 fun w S=>?_
  (refine Jn ?_)
  repeat(refine Jy ?_;try first|intro ao cap|intro b)
  (refine End.cY ((⟨z.st ++[t],ao,cap,z.err⟩:FS)) (ht:=Jx) (hp:=?_));rfl
theorem DT(fb cb ab:Nat)(u:Value)(r:FR)(z:FS)(hl:z.st.length≤1000):Fn Tryz.prog 146 #[ptr fb] [] (fm fb cb ab u r z) (fun z'=>aN r z'=Ver.done (aN r z)) (fun _=> .bool false) (fun z'=>fm fb cb ab u r z'):=by
 by_cases h0:z.st.length=0
 ·have hp:Ver.done (aN r z)=aN r z:=by unfold Ver.done;exact if_pos h0
  rw[hp];refine JE [ptr fb] Tryz.func146 Tryz.ntmps146 fun w S=>?_
  (refine Jn ?_)
  repeat(refine Jy ?_)
  (refine End.aH (z) (he:=Jv) (hp:=?_));rfl
 ·have hp:Ver.done (aN r z)=Ver.fail 12 (aN r z):=by unfold Ver.done;exact if_neg h0
  rw[hp];refine JE [ptr fb] Tryz.func146 Tryz.ntmps146 fun w S=>?_
  (refine Jn ?_)
  repeat(refine Jy ?_)
  (refine JQ (m5 fb cb ab u r z 12) ?_;intro s hs;(refine Jn ?_))
  repeat(refine Jy ?_)
  (refine End.aH (lT 12 z) (he:=Jv) (hp:=?_));exact m7 r z 12
theorem CF(f:Ver.aX):(Ver.pop f).2.stack.length≤f.stack.length:=by
 unfold Ver.pop Ver.fail
 split
 ·split<;>simp
 ·simp
theorem aH5(t:Int)(f:Ver.aX):(Ver.mN t f).stack.length≤f.stack.length:=by
 have:=CF f;unfold Ver.mN
 split
 ·unfold Ver.fail;split<;>exact this
 ·exact this
theorem lA(l:List Int)(f:Ver.aX):(Ver.want l f).stack.length≤f.stack.length:=by
 induction l with
 |nil=>exact cG _
 |cons t r ih=>exact dO (aH5 t _) ih
theorem kL(fb cb ab:Nat)(u:Value)(r:FR)(z:FS)(ao:Option Addr)(n cap:Nat)(l:List Int)(hn:l.length=n)(hn2:n≤1000)(hl:z.st.length≤1000):
  Fn Tryz.prog 119 #[ptr fb, .slice ao n cap] [rd ao n cap aT l] (fm fb cb ab u r z) (fun z'=>aN r z'=Ver.want l (aN r z)) (fun _=> .tuple #[]) (fun z'=>fm fb cb ab u r z'):=by
 refine JE [ptr fb, .slice ao n cap] Tryz.func119 Tryz.ntmps119 fun w S=>?_
 (refine Jn ?_)
 repeat(refine Jy ?_)
 apply aB.loop (σ:=Nat×FS) (fun s=>s.1≤n∧aN r s.2=Ver.want (l.drop s.1) (aN r z)) (fun s=>[(0,ptr fb),(1, .slice ao n cap),(4, .int .i64 ((s.1:Int)-1))]) (fun s=>aI w S::rd ao n cap aT l::fm fb cb ab u r s.2) (fun s=>s.1) (n,z)
 rotate_left
 exact sb;exact aK;intro s hs K hK;(refine Jn ?_)
 rotate_left
 ·exact⟨cG _,by rw[lD (by simp only;omega)];rfl⟩
 obtain⟨k,y⟩:=s;obtain⟨hk,hy⟩:=hs;simp only at hk hy hK⊢;have hyl:y.st.length≤1000:=by
  have h1:=lA (l.drop k) (aN r z);rw[←hy]at h1;exact dO h1 hl
 by_cases hk0:k=0
 ·subst hk0
  repeat(refine Jy ?_)
  (refine End.cY (y) (hp:=?_));exact hy
 ·obtain⟨j,rfl⟩:∃j,k=j+1:=⟨k-1,by omega⟩;have hd:Ver.want (l.drop j) (aN r z)=Ver.mN (l.getD j default) (aN r y):=by rw[drop_cons (by omega),hy];rfl
  have hj:(((j+1:Nat):Int)-1)=(j:Int):=by omega
  rw[hj]
  repeat(refine Jy ?_)
  (refine JQ (xA fb cb ab u r y hyl) ?_;intro s hs;(refine Jn ?_))
  by_cases hv:(Ver.pop (aN r y)).1=l.getD j default
  ·repeat(refine Jy ?_)
   refine End.o3 hK (j,s) ?_ ?_
   ·refine⟨by simp only;omega,?_⟩;rw[hd,Ver.mN,if_neg (fun h=>h hv)];exact hs
   ·simp only;omega
  ·repeat(refine Jy ?_)
   obtain⟨y',rfl⟩:∃y',y'=s:=⟨_,rfl⟩;have hy1:=hs;(refine JQ (m5 fb cb ab u r y' 9) ?_;intro s hs;(refine Jn ?_))
   repeat(refine Jy ?_)
   refine End.o3 hK (j,lT 9 y') ?_ ?_
   ·refine⟨by simp only;omega,?_⟩;rw[hd,Ver.mN,if_pos hv,m7,hy1]
   ·simp only;omega
structure Ok(M:ImgM.aG):Prop where
 boxes:M.boxes.length≤30
 aL:M.aL.length≤30
 head:∀k,k<M.aL.length→Ver.head M (M.aL.getD k default)=0
 gP:∀k,k<M.aL.length→∀i∈(M.aL.getD k default).code,Ver.gP M (M.aL.getD k default) i=0
theorem BL{M:ImgM.aG}{u:ImgM.bS}(h:Ver.head M u=0):u.locals.length≤200∧0≤u.params∧u.params≤6∧u.params≤u.locals.length∧1≤u.code.length∧u.code.length≤4000:=by
 unfold Ver.head at h
 split at h
 ·cases h
 split at h
 ·cases h
 split at h
 ·cases h
 omega
theorem OO(fb cb ab mb:Nat)(u:Value)(m:ML)(r:FR)(z:FS)(hl:z.st.length≤1000)(k:Nat)(hk:k<m.us.length)(hh:Ver.head m.aC (m.us.getD k default).u=0):
  Fn Tryz.prog 145 #[ptr fb, .int .i64 (k:Int)] [md m] (fm fb cb ab u r z ++ck cb mb m) (fun z'=>aN r z'=Ver.args m.aC k (aN r z)) (fun _=>up m k) (fun z'=>fm fb cb ab u r z' ++ck cb mb m):=by
 obtain⟨h1,h2,h3,h4,h5,h6⟩:=BL hh;have ha:Ver.args m.aC k (aN r z)=Ver.want ((m.us.getD k default).u.locals.take (m.us.getD k default).u.params.toNat) (aN r z):=by
  unfold Ver.args;rw[Jj,ML.jI]
 rw[ha];refine JE [ptr fb, .int .i64 (k:Int)] Tryz.func145 Tryz.ntmps145 fun w S=>?_
 (refine Jn ?_);(refine Jn ?_)
 repeat(refine Jy ?_)
 apply aB.draw 10 ([md m,aD fb (qN cb ab u r z) 195,aD cb [.pointer (some ⟨mb,0,none⟩)] 128,aD mb [.slice m.bo m.bx.length m.bc, .slice m.uo m.us.length m.uc] 26]) (by kernel_rfl) 11 rfl;refine JR 0 ?_;refine JR 1 ?_;refine JR 2 ?_;refine JR 3 ?_;refine JR 4 ?_;refine JR 5 ?_;refine JR 6 ?_;refine JR 7 ?_;refine JR 8 ?_;(refine JT 9 ?_;refine aA.aAS (m:=m) (k:=k) (kk:=?_);intro ao cap;refine JG ?_;(refine Jn ?_));(refine JT 10 ?_;refine aA.aZ (spec:=kL fb cb ab u r z ao _ cap ((m.us.getD k default).u.locals.take (m.us.getD k default).u.params.toNat) (List.length_take_of_le (by omega)) (by omega) hl) (k:=?_);intro s hs;refine JG ?_;(refine Jn ?_));(apply RunT.done;kernel_rfl)
 repeat(refine Jy ?_)
 (refine End.aH (s) (he:=Jv) (hp:=?_));exact hs
theorem PM(x:SH)(h1:x.st.length≤1000000)(h2:x.hs.length≤1000000):Fn Tryz.prog 75 #[oB x] [rd x.so x.st.length x.sc aT x.st,rd x.ho x.hs.length x.hc nP x.hs] [] (fun y:SH=>y.st=x.st∧y.hs=x.hs) oB (fun y=>[arr y.so y.st.length y.sc 3 aT y.st,arr y.ho y.hs.length y.hc 4 nP y.hs]):=by
 refine JE [oB x] Tryz.func75 Tryz.ntmps75 fun w S=>?_
 (refine Jn ?_)
 repeat(refine Jy ?_;try intro b)
 rename_i b1
 apply aB.draw 7 ([aD b1 [.slice x.so x.st.length x.sc, .slice x.ho x.hs.length x.hc] 193]) (by kernel_rfl) 8 rfl;refine JR 0 ?_;refine JR 1 ?_;refine JR 3 ?_;refine JR 4 ?_;(refine JT 2 ?_;refine JK (aAD x.so x.st.length x.sc x.st rfl (by omega)) ?_;intro s hs;refine JG ?_;(refine Jn ?_));obtain⟨ao,ac⟩:=s;(refine JT 5 ?_;refine JK (aAC x.ho x.hs.length x.hc x.hs rfl (by omega)) ?_;intro s hs;refine JG ?_;(refine Jn ?_));obtain⟨bo,bc⟩:=s;refine JR 6 ?_;(refine JT 7 ?_;(refine Jw ?_);refine JG ?_);(apply RunT.done;kernel_rfl)
 repeat(refine Jy ?_)
 (refine End.eK ((⟨x.st,ao,ac,x.hs,bo,bc⟩:SH)) (he:=by rfl) (hp:=?_));exact⟨rfl,rfl⟩
theorem aEP(f:Ver.aX)(h:∀t∈f.stack,ImgM.bG t):ImgM.bG (Ver.pop f).1:=by
 unfold Ver.pop
 split
 ·unfold ImgM.bG;simp only;omega
 ·refine h _ ?_;rw[Jd,Je (by omega)];exact fB _
def IY(m:ML):Option Int→Value
 |none=> .pointer none
 |some k=>up m k.toNat
theorem Q3(fb cb ab mb:Nat)(u:Value)(m:ML)(r:FR)(z:FS)(hl:z.st.length≤1000)(ht:∀t∈z.st,ImgM.bG t):
  Fn Tryz.prog 147 #[ptr fb] [md m] (fm fb cb ab u r z ++ck cb mb m) (fun z'=>aN r z'=(Ver.gen m.aC (aN r z)).2) (fun _=>IY m (Ver.gen m.aC (aN r z)).1) (fun z'=>fm fb cb ab u r z' ++ck cb mb m):=by
 refine JE [ptr fb] Tryz.func147 Tryz.ntmps147 fun w S=>?_
 (refine Jn ?_);(refine Jn ?_)
 repeat(refine Jy ?_)
 (refine JQ (xA fb cb ab u r z hl) ?_;intro s hs;(refine Jn ?_));have ht':=aEP (aN r z) ht;generalize hp:(Ver.pop (aN r z)).1=t at *;have hg:Ver.gen m.aC (aN r z)=if s.err≠0 then(none,aN r s)else if Ver.handle m.aC t=false then(none,Ver.fail 9 (aN r s))else(some (t-10),aN r s):=by
  unfold Ver.gen;rw[←hs,hp];rfl
 obtain⟨y,rfl⟩:∃y,y=s:=⟨_,rfl⟩;clear hs
 by_cases he:y.err=0
 ·rw[if_neg (fun h=>h he)]at hg
  repeat(refine Jy ?_)
  (refine JQ (RG cb mb m t ht') ?_;intro s hs;(refine Jn ?_))
  cases hh:Ver.handle m.aC t with
  |false=>
   rw[hh,if_pos rfl]at hg;rw[hg]
   repeat(refine Jy ?_)
   (refine JQ (m5 fb cb ab u r y 9) ?_;intro s hs;(refine Jn ?_))
   repeat(refine Jy ?_)
   (refine End.aH (lT 9 y) (he:=Jv) (hp:=?_));exact m7 r y 9
  |true=>
   rw[hh,if_neg (by decide)]at hg;rw[hg];unfold ImgM.bG at ht';have hh':=hh;simp only[Ver.handle,Ver.isUnit,JX,JV,Jf]at hh';obtain⟨g1,⟨g2,g3⟩,g4⟩:=hh';clear g4
   repeat(refine Jy ?_)
   (refine End.aH (y) (he:=by rfl) (hp:=?_));rfl
 ·rw[if_pos he]at hg;rw[hg]
  repeat(refine Jy ?_)
  (refine End.aH (y) (he:=Jv) (hp:=?_));rfl
theorem iU{r:FR}{s:FS}{g:Ver.aX}(h:aN r s=g){N:Nat}(hg:g.stack.length≤N):s.st.length≤N:=by
 have:s.st=g.stack:=congrArg Ver.aX.stack h;rw[this];exact hg
theorem aBD(e:Int)(f:Ver.aX):(Ver.fail e f).stack.length=f.stack.length:=by unfold Ver.fail;split<;>rfl
theorem OQ(M:ImgM.aG)(k:Int)(f:Ver.aX):(Ver.args M k f).stack.length≤f.stack.length:=lA _ _
theorem KH{M:ImgM.aG}{i kind:Int}(h:Ver.isUnit M i kind=true):∃k:Nat,i=(k:Int)∧k<M.aL.length∧(M.aL.getD k default).kind=kind:=by
 simp only[Ver.isUnit,JX,JV]at h;obtain⟨⟨h1,h2⟩,h3⟩:=h;exact⟨i.toNat,by omega,by omega,h3⟩
theorem Q5(M:ImgM.aG)(f:Ver.aX){N:Nat}(h:f.stack.length≤N):(Ver.gen M f).2.stack.length≤N:=by
 have:=CF f;unfold Ver.gen
 split
 ·simp only;omega
 split
 ·simp only[aBD];omega
 ·simp only;omega
theorem aEQ(f:Ver.aX):∀t∈(Ver.pop f).2.stack,t∈f.stack:=by
 unfold Ver.pop
 split
 ·unfold Ver.fail;split<;>exact fun t h=>h
 ·exact fun t h=>List.mem_of_mem_take h
theorem aB1(M:ImgM.aG)(f:Ver.aX):∀k,(Ver.gen M f).1=some k→∃j:Nat,k=(j:Int)∧j<M.aL.length:=by
 unfold Ver.gen
 split
 ·intro k h;cases h
 split
 ·intro k h;cases h
 ·intro k h
  rename_i h2
  simp only[tY]at h;subst h;have h3:Ver.handle M (Ver.pop f).1=true:=by simpa using h2
  simp only[Ver.handle,JX]at h3;obtain⟨j,h4,h5, -⟩:=KH h3.2;exact⟨j,h4,h5⟩
theorem aE.look{P:Program}{ops:Array Oper}{Q:Exit→Act→World→Prop}{N:Nd}{d:Nat}{l:List Oper}{E:Env}{L:List Chunk}{v v':Value}(h:Proofs.YtofckcabpchcmaaGreatDoor.look E d=some v)(e:v=v')(k:aE P ops Q N l ((d,v')::E) L):aE P ops Q N l E L:=by
 subst e;unfold aE at k⊢;exact fun a w hs hm=>k a w (hs.o5 h) hm
section
variable(fb cb ab mb:Nat)(m:ML)(r:FR)(z:FS)(q:Nat)(hq:q<m.us.length)(hl:z.st.length≤300)(hst:∀t∈z.st,ImgM.bG t)
abbrev jJ(i:ImgM.aY):Prop:=Fn Tryz.prog 121 #[ptr fb,kR i] [md m] (fm fb cb ab (up m q) r z ++ck cb mb m) (fun z'=>aN r z'=(Ver.eS m.aC (m.us.getD q default).u i (aN r z)).2) (fun _=> .bool (Ver.eS m.aC (m.us.getD q default).u i (aN r z)).1) (fun z'=>fm fb cb ab (up m q) r z' ++ck cb mb m)
include hl hst hq
theorem aFk(k:Nat)(n:Int)(hk:k<m.us.length)(hh:Ver.head m.aC (m.us.getD k default).u=0):jJ fb cb ab mb m r z q ⟨23,k,n⟩:=by
 have e:Ver.eS m.aC (m.us.getD q default).u ⟨23,k,n⟩ (aN r z)=(true,Ver.push (m.us.getD k default).u.result (Ver.args m.aC k (aN r z))):=by
  unfold Ver.eS;rw[if_pos rfl,Jj,ML.jI]
 unfold jJ;rw[e];refine JE [ptr fb, .agg #[.int .i64 23, .int .i64 (k:Int), .int .i64 n]] Tryz.func121 Tryz.ntmps121 fun w S=>?_
 (refine Jn ?_);(refine Jn ?_)
 repeat(refine Jy ?_;try intro b)
 (refine JH (OO fb cb ab mb (up m q) m r z (by omega) k hk hh) ?_;intro s hs;(refine Jn ?_));obtain⟨y,rfl⟩:∃y,y=s:=⟨_,rfl⟩;have hy:=hs;have hyl:=iU hs (dO (OQ _ _ _) (show(aN r z).stack.length≤300 from hl))
 repeat(refine Jy ?_)
 (refine JH (iY fb cb ab (up m q) r y (m.us.getD k default).u.result (by omega)) ?_;intro s hs;(refine Jn ?_))
 repeat(refine Jy ?_)
 (refine End.aH (s) (he:=Jv) (hp:=?_));simp only;rw[hs,hy]
theorem aFq(k:Nat)(n:Int)(hk:k<m.us.length)(hu30:m.us.length≤30)(hh:Ver.head m.aC (m.us.getD k default).u=0):jJ fb cb ab mb m r z q ⟨29,k,n⟩:=by
 have e:Ver.eS m.aC (m.us.getD q default).u ⟨29,k,n⟩ (aN r z)=(true,Ver.push (10+(k:Int)) (Ver.args m.aC k (aN r z))):=by
  unfold Ver.eS;dsimp only;(repeat rw[if_neg (by decide)]);rw[if_pos rfl]
 unfold jJ;rw[e];refine JE [ptr fb, .agg #[.int .i64 29, .int .i64 (k:Int), .int .i64 n]] Tryz.func121 Tryz.ntmps121 fun w S=>?_
 (refine Jn ?_);(refine Jn ?_);apply aB.fact m.Small (fun w hm=>(nW.1 (hm.has tk)).small);intro hsm;have hsu:(k:Int)≤1000000:=by omega
 repeat(refine Jy ?_;try intro b)
 (refine JH (OO fb cb ab mb (up m q) m r z (by omega) k hk hh) ?_;intro s hs;(refine Jn ?_));obtain⟨y,rfl⟩:∃y,y=s:=⟨_,rfl⟩;have hy:=hs;have hyl:=iU hs (dO (OQ _ _ _) (show(aN r z).stack.length≤300 from hl))
 repeat(refine Jy ?_)
 (refine JH (iY fb cb ab (up m q) r y (10+(k:Int)) (by omega)) ?_;intro s hs;(refine Jn ?_))
 repeat(refine Jy ?_)
 (refine End.aH (s) (he:=Jv) (hp:=?_));simp only;rw[hs,hy]
theorem aFl(a n:Int):jJ fb cb ab mb m r z q ⟨24,a,n⟩:=by
 have e:Ver.eS m.aC (m.us.getD q default).u ⟨24,a,n⟩ (aN r z)=(false,Ver.done (Ver.want [(m.us.getD q default).u.result] (if(m.us.getD q default).u.kind≠2 then Ver.fail 8 (aN r z)else aN r z))):=by
  unfold Ver.eS;dsimp only;(repeat rw[if_neg (by decide)]);rw[if_pos rfl]
 unfold jJ;rw[e]
 by_cases hkd:(m.us.getD q default).u.kind=2
 ·rw[if_neg (fun h=>h hkd)];refine JE [ptr fb, .agg #[.int .i64 24, .int .i64 a, .int .i64 n]] Tryz.func121 Tryz.ntmps121 fun w S=>?_
  (refine Jn ?_);(refine Jn ?_)
  repeat(refine Jy ?_;try intro b)
  (refine Jc ?_;refine aA.aZ (spec:=kL fb cb ab (up m q) r z _ 1 _ [(m.us.getD q default).u.result] rfl (by omega) (by omega)) (t:=Jx) (k:=?_);intro s hs;(refine Jn ?_));obtain⟨y,rfl⟩:∃y,y=s:=⟨_,rfl⟩;have hy:=hs;have hyl:=iU hs (dO (lA _ _) (show(aN r z).stack.length≤300 from hl))
  repeat(refine Jy ?_)
  (refine JH (DT fb cb ab (up m q) r y (by omega)) ?_;intro s hs;(refine Jn ?_))
  repeat(refine Jy ?_)
  (refine End.aH (s) (he:=Jv) (hp:=?_));simp only;rw[hs,hy]
 ·rw[if_pos hkd];refine JE [ptr fb, .agg #[.int .i64 24, .int .i64 a, .int .i64 n]] Tryz.func121 Tryz.ntmps121 fun w S=>?_
  (refine Jn ?_);(refine Jn ?_)
  repeat(refine Jy ?_;try intro b)
  (refine JH (m5 fb cb ab (up m q) r z 8) ?_;intro s hs;(refine Jn ?_))
  repeat(refine Jy ?_;try intro b)
  (refine Jc ?_;refine aA.aZ (spec:=kL fb cb ab (up m q) r (lT 8 z) _ 1 _ [(m.us.getD q default).u.result] rfl (by omega) (by show z.st.length≤1000;omega)) (t:=Jx) (k:=?_);intro s hs;(refine Jn ?_));obtain⟨y,rfl⟩:∃y,y=s:=⟨_,rfl⟩;have hy:=hs;have hyl:=iU hs (dO (lA _ _) (show(aN r z).stack.length≤300 from hl));rw[m7]at hy
  repeat(refine Jy ?_)
  (refine JH (DT fb cb ab (up m q) r y (by omega)) ?_;intro s hs;(refine Jn ?_))
  repeat(refine Jy ?_)
  (refine End.aH (s) (he:=Jv) (hp:=?_));simp only;rw[hs,hy]
theorem aFm(a n:Int):jJ fb cb ab mb m r z q ⟨25,a,n⟩:=by
 have e:Ver.eS m.aC (m.us.getD q default).u ⟨25,a,n⟩ (aN r z)=(false,Ver.done (if(m.us.getD q default).u.kind=2 then Ver.fail 8 (aN r z)else aN r z)):=by
  unfold Ver.eS;dsimp only;(repeat rw[if_neg (by decide)]);rw[if_pos rfl]
 unfold jJ;rw[e]
 by_cases hkd:(m.us.getD q default).u.kind=2
 ·rw[if_pos hkd];refine JE [ptr fb, .agg #[.int .i64 25, .int .i64 a, .int .i64 n]] Tryz.func121 Tryz.ntmps121 fun w S=>?_
  (refine Jn ?_);(refine Jn ?_)
  repeat(refine Jy ?_;try intro b)
  (refine JH (m5 fb cb ab (up m q) r z 8) ?_;intro s hs;(refine Jn ?_))
  repeat(refine Jy ?_)
  (refine JH (DT fb cb ab (up m q) r (lT 8 z) (by show z.st.length≤1000;omega)) ?_;intro s hs;(refine Jn ?_))
  repeat(refine Jy ?_)
  (refine End.aH (s) (he:=Jv) (hp:=?_));simp only;rw[hs,m7]
 ·rw[if_neg hkd];refine JE [ptr fb, .agg #[.int .i64 25, .int .i64 a, .int .i64 n]] Tryz.func121 Tryz.ntmps121 fun w S=>?_
  (refine Jn ?_);(refine Jn ?_)
  repeat(refine Jy ?_;try intro b)
  (refine JH (DT fb cb ab (up m q) r z (by omega)) ?_;intro s hs;(refine Jn ?_))
  repeat(refine Jy ?_)
  (refine End.aH (s) (he:=Jv) (hp:=?_));exact hs
theorem aFp(a n:Int):jJ fb cb ab mb m r z q ⟨28,a,n⟩:=by
 have e:Ver.eS m.aC (m.us.getD q default).u ⟨28,a,n⟩ (aN r z)=(true,if(Ver.pop (aN r z)).2.err=0∧Ver.plain (Ver.pop (aN r z)).1=false then Ver.fail 9 (Ver.pop (aN r z)).2 else(Ver.pop (aN r z)).2):=by
  unfold Ver.eS;dsimp only;(repeat rw[if_neg (by decide)]);rw[if_pos rfl]
 unfold jJ;rw[e];refine JE [ptr fb, .agg #[.int .i64 28, .int .i64 a, .int .i64 n]] Tryz.func121 Tryz.ntmps121 fun w S=>?_
 (refine Jn ?_);(refine Jn ?_)
 repeat(refine Jy ?_;try intro b)
 (refine JH (xA fb cb ab (up m q) r z (by omega)) ?_;intro s hs;(refine Jn ?_));obtain⟨y,rfl⟩:∃y,y=s:=⟨_,rfl⟩;rw[←hs];generalize(Ver.pop (aN r z)).1=t at *;clear hs e
 by_cases he:y.err=0
 ·cases hp:Ver.plain t with
  |true=>
   rw[if_neg (fun h=>by cases h.2)]
   repeat(first|(refine Jc ?_;refine aA.aZ (spec:=CC _) (k:=?_);intro s hs;(refine Jn ?_))|refine Jo ?_|(refine JB ?_;intro b)|(refine JA ?_;intro ao cap))
   (refine End.aH (y) (he:=Jv) (hp:=?_));rfl
  |false=>
   rw[if_pos ⟨he,rfl⟩]
   repeat(first|(refine Jc ?_;refine aA.aZ (spec:=CC _) (k:=?_);intro s hs;(refine Jn ?_))|refine Jo ?_|(refine JB ?_;intro b)|(refine JA ?_;intro ao cap))
   (refine JH (m5 fb cb ab (up m q) r y 9) ?_;intro s hs;(refine Jn ?_))
   repeat(refine Jy ?_)
   (refine End.aH (lT 9 y) (he:=Jv) (hp:=?_));exact m7 r y 9
 ·rw[if_neg (fun h=>he h.1)]
  repeat(refine Jy ?_)
  (refine End.aH (y) (he:=Jv) (hp:=?_));rfl
theorem aFs(a n:Int):jJ fb cb ab mb m r z q ⟨31,a,n⟩:=by
 have e:Ver.eS m.aC (m.us.getD q default).u ⟨31,a,n⟩ (aN r z)=(true,Ver.push (m.us.getD q default).u.aS (Ver.want [(m.us.getD q default).u.result] (if(m.us.getD q default).u.kind≠3 then Ver.fail 8 (aN r z)else aN r z))):=by
  unfold Ver.eS;dsimp only;(repeat rw[if_neg (by decide)]);rw[if_pos rfl]
 unfold jJ;rw[e]
 by_cases hkd:(m.us.getD q default).u.kind=3
 ·rw[if_neg (fun h=>h hkd)];refine JE [ptr fb, .agg #[.int .i64 31, .int .i64 a, .int .i64 n]] Tryz.func121 Tryz.ntmps121 fun w S=>?_
  (refine Jn ?_);(refine Jn ?_)
  repeat(refine Jy ?_;try intro b)
  (refine Jc ?_;refine aA.aZ (spec:=kL fb cb ab (up m q) r z _ 1 _ [(m.us.getD q default).u.result] rfl (by omega) (by omega)) (t:=Jx) (k:=?_);intro s hs;(refine Jn ?_));obtain⟨y,rfl⟩:∃y,y=s:=⟨_,rfl⟩;have hy:=hs;have hyl:=iU hs (dO (lA _ _) (show(aN r z).stack.length≤300 from hl))
  repeat(refine Jy ?_)
  (refine JH (iY fb cb ab (up m q) r y (m.us.getD q default).u.aS (by omega)) ?_;intro s hs;(refine Jn ?_))
  repeat(refine Jy ?_)
  (refine End.aH (s) (he:=Jv) (hp:=?_));simp only;rw[hs,hy]
 ·rw[if_pos hkd];refine JE [ptr fb, .agg #[.int .i64 31, .int .i64 a, .int .i64 n]] Tryz.func121 Tryz.ntmps121 fun w S=>?_
  (refine Jn ?_);(refine Jn ?_)
  repeat(refine Jy ?_;try intro b)
  (refine JH (m5 fb cb ab (up m q) r z 8) ?_;intro s hs;(refine Jn ?_))
  repeat(refine Jy ?_;try intro b)
  (refine Jc ?_;refine aA.aZ (spec:=kL fb cb ab (up m q) r (lT 8 z) _ 1 _ [(m.us.getD q default).u.result] rfl (by omega) (by show z.st.length≤1000;omega)) (t:=Jx) (k:=?_);intro s hs;(refine Jn ?_));obtain⟨y,rfl⟩:∃y,y=s:=⟨_,rfl⟩;have hy:=hs;have hyl:=iU hs (dO (lA _ _) (show(aN r z).stack.length≤300 from hl));rw[m7]at hy
  repeat(refine Jy ?_)
  (refine JH (iY fb cb ab (up m q) r y (m.us.getD q default).u.aS (by omega)) ?_;intro s hs;(refine Jn ?_))
  repeat(refine Jy ?_)
  (refine End.aH (s) (he:=Jv) (hp:=?_));simp only;rw[hs,hy]
theorem aFt(a n:Int):jJ fb cb ab mb m r z q ⟨32,a,n⟩:=by
 have e:Ver.eS m.aC (m.us.getD q default).u ⟨32,a,n⟩ (aN r z)=(true,Ver.push 2 (Ver.gen m.aC (aN r z)).2):=by
  unfold Ver.eS;dsimp only;(repeat rw[if_neg (by decide)]);rw[if_pos rfl]
 unfold jJ;rw[e];refine JE [ptr fb, .agg #[.int .i64 32, .int .i64 a, .int .i64 n]] Tryz.func121 Tryz.ntmps121 fun w S=>?_
 (refine Jn ?_);(refine Jn ?_)
 repeat(refine Jy ?_;try intro b)
 (refine JH (Q3 fb cb ab mb (up m q) m r z (by omega) hst) ?_;intro s hs;(refine Jn ?_));obtain⟨y,rfl⟩:∃y,y=s:=⟨_,rfl⟩;have hy:=hs;have hyl:=iU hs (Q5 _ _ (show(aN r z).stack.length≤300 from hl))
 repeat(refine Jy ?_)
 (refine JH (iY fb cb ab (up m q) r y 2 (by omega)) ?_;intro s hs;(refine Jn ?_))
 repeat(refine Jy ?_)
 (refine End.aH (s) (he:=Jv) (hp:=?_));simp only;rw[hs,hy]
theorem aFn(k:Nat)(n:Int)(hk:k<m.bx.length):jJ fb cb ab mb m r z q ⟨26,k,n⟩:=by
 have e:Ver.eS m.aC (m.us.getD q default).u ⟨26,k,n⟩ (aN r z)=(true,Ver.want [(m.bx.getD k default).1] (aN r z)):=by
  unfold Ver.eS;dsimp only;(repeat rw[if_neg (by decide)]);rw[if_pos rfl];rw[Jj]
 unfold jJ;rw[e];refine JE [ptr fb, .agg #[.int .i64 26, .int .i64 (k:Int), .int .i64 n]] Tryz.func121 Tryz.ntmps121 fun w S=>?_
 (refine Jn ?_);(refine Jn ?_)
 repeat(refine Jy ?_;try intro b)
 apply aB.draw 17 ([md m,aD fb (qN cb ab (up m q) r z) 195,aD cb [.pointer (some ⟨mb,0,none⟩)] 128,aD mb [.slice m.bo m.bx.length m.bc, .slice m.uo m.us.length m.uc] 26,aD b [.int .i64 26, .int .i64 (k:Int), .int .i64 n] 113]) (by kernel_rfl) 18 rfl;refine JR 0 ?_;refine JR 1 ?_;refine JR 2 ?_;refine JR 3 ?_;refine JR 4 ?_;refine JR 5 ?_;refine JR 6 ?_;refine JR 7 ?_;refine JR 8 ?_;refine JR 9 ?_;refine JR 10 ?_;refine JR 11 ?_;refine JR 12 ?_;refine JR 13 ?_;refine JR 14 ?_;refine JR 15 ?_;(refine JT 16 ?_;(refine Jb ?_;intro b);refine JG ?_);(refine JT 17 ?_;refine aA.aZ (spec:=kL fb cb ab (up m q) r z _ 1 _ [(m.bx.getD k default).1] rfl (by omega) (by omega)) (k:=?_);intro s hs;refine JG ?_;(refine Jn ?_));(apply RunT.done;kernel_rfl)
 repeat(refine Jy ?_)
 (refine End.aH (s) (he:=Jv) (hp:=?_));exact hs
theorem aFo(k:Nat)(n:Int)(hk:k<m.bx.length):jJ fb cb ab mb m r z q ⟨27,k,n⟩:=by
 have e:Ver.eS m.aC (m.us.getD q default).u ⟨27,k,n⟩ (aN r z)=(true,Ver.push (m.bx.getD k default).1 (aN r z)):=by
  unfold Ver.eS;dsimp only;(repeat rw[if_neg (by decide)]);rw[if_pos rfl];rw[Jj]
 unfold jJ;rw[e];refine JE [ptr fb, .agg #[.int .i64 27, .int .i64 (k:Int), .int .i64 n]] Tryz.func121 Tryz.ntmps121 fun w S=>?_
 (refine Jn ?_);(refine Jn ?_)
 repeat(refine Jy ?_;try intro b)
 (refine JH (iY fb cb ab (up m q) r z (m.bx.getD k default).1 (by omega)) ?_;intro s hs;(refine Jn ?_))
 repeat(refine Jy ?_)
 (refine End.aH (s) (he:=Jv) (hp:=?_));exact hs
theorem aFr(a n:Int):jJ fb cb ab mb m r z q ⟨30,a,n⟩:=by
 obtain⟨F,hF⟩:∃F,F=(match Ver.gen m.aC (Ver.pop (aN r z)).2 with
  |(none,g)=>g
  |(some k,g)=>Ver.push (m.aC.aL.getD k.toNat default).result (if(Ver.pop (aN r z)).1≠(m.aC.aL.getD k.toNat default).aS then Ver.fail 9 g else g)):=⟨_,rfl⟩
 have e:Ver.eS m.aC (m.us.getD q default).u ⟨30,a,n⟩ (aN r z)=(true,F):=by
  unfold Ver.eS;dsimp only;(repeat rw[if_neg (by decide)]);rw[if_pos rfl,hF];try rfl
 unfold jJ;rw[e];clear e;refine JE [ptr fb, .agg #[.int .i64 30, .int .i64 a, .int .i64 n]] Tryz.func121 Tryz.ntmps121 fun w S=>?_
 (refine Jn ?_);(refine Jn ?_);apply aB.fact (∀k,k<m.us.length→(place (sz mM) m.uo k 0).isSome=true) (fun w hm k hk=>(bU.uS tk).place hm hk 0);intro hpl
 repeat(refine Jy ?_;try intro b)
 (refine JH (xA fb cb ab (up m q) r z (by omega)) ?_;intro s hs;(refine Jn ?_));obtain⟨y,rfl⟩:∃y,y=s:=⟨_,rfl⟩;have hyl:=iU hs (dO (CF _) (show(aN r z).stack.length≤300 from hl));have hyt:∀t∈y.st,ImgM.bG t:=fun t ht=>hst t (aEQ _ _ (by rw[←hs];exact ht))
 rw[←hs]at hF;generalize(Ver.pop (aN r z)).1=v at *;clear hs
 repeat(refine Jy ?_)
 (refine JH (Q3 fb cb ab mb (up m q) m r y (by omega) hyt) ?_;intro s hs;(refine Jn ?_));obtain⟨x,rfl⟩:∃x,x=s:=⟨_,rfl⟩;have hxl:=iU hs (Q5 m.aC (aN r y) hyl);have hgk:=aB1 m.aC (aN r y);generalize hg:Ver.gen m.aC (aN r y)=G at *;obtain⟨o,g⟩:=G;simp only at hs hgk hxl hF;subst hs
 cases o with
 |none=>
  simp only at hF
  repeat(refine Jy ?_)
  (refine End.aH (x) (he:=Jv) (hp:=?_));exact hF.symm
 |some k=>
  obtain⟨j,rfl,hj⟩:=hgk k rfl;have hj':j<m.us.length:=by simpa using hj
  have hpj:=hpl j hj';have hF2:F=Ver.push (m.us.getD j default).u.result (if v≠(m.us.getD j default).u.aS then Ver.fail 9 (aN r x)else aN r x):=by
   rw[hF];simp only[Jj,wT]
  clear hF;have hF:=hF2;clear hF2;have hgv:IY m (some ((j:Nat):Int))=up m j:=by simp only[IY,Jj]
  apply aE.look (d:=130) (by exact rfl) hgv
  by_cases hv:v=(m.us.getD j default).u.aS
  ·rw[if_neg (fun h=>h hv)]at hF
   repeat(refine Jy ?_)
   (refine JH (iY fb cb ab (up m q) r x (m.us.getD j default).u.result (by omega)) ?_;intro s hs;(refine Jn ?_))
   repeat(refine Jy ?_)
   (refine End.aH (s) (he:=Jv) (hp:=?_));exact hs.trans hF.symm
  ·rw[if_pos hv]at hF
   repeat(refine Jy ?_)
   (refine JH (m5 fb cb ab (up m q) r x 9) ?_;intro s hs;(refine Jn ?_))
   repeat(refine Jy ?_)
   (refine JH (iY fb cb ab (up m q) r (lT 9 x) (m.us.getD j default).u.result (by show x.st.length≤1000;omega)) ?_;intro s hs;(refine Jn ?_))
   repeat(refine Jy ?_)
   (refine End.aH (s) (he:=Jv) (hp:=?_));rw[hF,←m7];exact hs
end
end
end Vw
end Go.Proofs.YtofckcabpchcmaaGreatDoor
