/- What package opt computes, in plain Lean. -/
import Derived.Test.YtjehflelkpacfaaGreatM08
set_option linter.unusedVariables false
set_option linter.unusedSimpArgs false
set_option linter.unusedSectionVars false
set_option maxRecDepth 100000
namespace Go.Proofs.YtjehflelkpacfaaGreat.Opt
open ImgM Ver
def isJ(i:Ins):Bool:=decide (i.op=21)||decide (i.op=22)
def tgt(l:List Ins)(p:Int):Bool:=l.any fun i=>isJ i&&decide (i.a=p)
def cval(i:Ins):Int:=if i.op=1 then i.n else if i.op=2 then i.a else 0
def isC(i:Ins):Bool:=decide (i.op=1)||decide (i.op=2)
def known(v:Int)(t:Bool):List Ins:=if t then [⟨2,v,0⟩]else [⟨1,0,v⟩]
def yes(b:Bool):Int:=if b then 1 else 0
def two2(op a b:Int):Int:=
 if op=8 then IntKind.i64.wrap (a+b)
 else if op=9 then IntKind.i64.wrap (a-b)
 else if op=10 then IntKind.i64.wrap (a*b)
 else if op=11∨op=12 then
  if a= -9223372036854775808∧b= -1 then(if op=11 then a else 0)
  else if op=11 then IntKind.i64.wrap (a.tdiv b)else a.tmod b
 else if op=13 then yes (decide (a=b))
 else if op=14 then yes (!decide (a=b))
 else if op=15 then yes (decide (a<b))
 else if op=16 then yes (decide (a≤b))
 else if op=17 then yes (decide (b<a))
 else if op=18 then yes (decide (b≤a))
 else if op=19 then bits .and .i64 a b
 else bits .or .i64 a b
def three(a b c:Ins):Option (List Ins):=
 if isC a=false∨isC b=false∨a.op≠b.op∨c.op<8∨20<c.op∨(cval b=0∧(c.op=11∨c.op=12))then none
 else if((c.op=19∨c.op=20)↔¬a.op=2)∧c.op≠13∧c.op≠14 then none
 else some (known (two2 c.op (cval a) (cval b)) (decide (12<c.op)))
def pair(a b:Ins):Option (List Ins):=
 if b.op=5∧(isC a=true∨a.op=3)then some []
 else if isC a=false then none
 else if b.op=6∧a.op=1 then some (known (IntKind.i64.wrap (-(cval a))) false)
 else if a.op=1 then none
 else if b.op=7 then some (known (IntKind.i64.wrap (1-cval a)) true)
 else if b.op=22∧cval a≠0 then some []
 else if b.op=22 then some [⟨21,b.a,0⟩]
 else none
def at_(l:List Ins)(k:Nat):Ins:=l.getD k default
def free(l:List Ins)(p n:Nat):Bool:=decide (p+n<l.length)&&(List.range n).all fun k=>decide (k=0)|| !tgt l ((p+k:Nat):Int)
def shorter(l:List Ins)(p:Nat):List Ins×Nat:=
 match (if free l p 3 then three (at_ l p) (at_ l (p+1)) (at_ l (p+2))else none)with
 |some r=>(r,3)
 |none=>match (if free l p 2 then pair (at_ l p) (at_ l (p+1))else none)with
  |some r=>(r,2)
  |none=>if free l p 1=true∧(at_ l p).op=21∧(at_ l p).a=(p:Int)+1 then([],1)else([],0)
structure PS where
 p:Nat
 out:List Ins
 wh:List Int
 did:Bool
def setAll(wh:List Int)(p:Nat)(v:Int):Nat→List Int
 |0=>wh
 |n+1=>(setAll wh p v n).set (p+n+1) v
def pstep(l:List Ins)(s:PS):PS:=
 if(shorter l s.p).2=0 then⟨s.p+1,s.out ++[at_ l s.p],s.wh.set s.p (s.out.length:Int),s.did⟩
 else⟨s.p+(shorter l s.p).2,s.out ++(shorter l s.p).1,setAll (s.wh.set s.p (s.out.length:Int)) s.p ((s.out ++(shorter l s.p).1).length:Int) ((shorter l s.p).2-1),true⟩
def prun(l:List Ins):Nat→PS→PS
 |0,s=>s
 |n+1,s=>if s.p<l.length then prun l n (pstep l s)else s
def reloc(wh:List Int)(i:Ins):Ins:=if isJ i then{i with a:=wh.getD i.a.toNat 0}else i
def pass0(l:List Ins):PS:=prun l l.length ⟨0,[],List.replicate (l.length+1) 0,false⟩
def pass(l:List Ins):List Ins×Bool:=((pass0 l).out.map (reloc (pass0 l).wh),(pass0 l).did)
def codeN:Nat→List Ins→List Ins
 |0,l=>l
 |n+1,l=>if(pass l).2 then codeN n (pass l).1 else(pass l).1
def code(l:List Ins):List Ins:=codeN (l.length+1) l
def unit(u:Unt):Unt:={u with code:=code u.code}
def mdl(M:Mdl):Mdl:=⟨M.boxes,M.units.map unit⟩
end Go.Proofs.YtjehflelkpacfaaGreat.Opt
namespace Go.Proofs.YtjehflelkpacfaaGreat.Vm
open ImgM Ver Opt
structure Env(ν:Type) where
 full:ν→Nat→Bool
 empty:ν→Nat→Bool
 put:ν→Nat→Int→ν
 take:ν→Nat→Int×ν
 tell:ν→Int×Int×Int→ν
structure Fr where
 unit:Nat
 pc:Nat
 base:Nat
deriving Inhabited,DecidableEq
structure Co where
 st:Nat
 up:Option Nat
 fr:List Fr
 ws:List Int
deriving Inhabited,DecidableEq
structure Tk where
 cs:List Co
 now:Nat
 st:Int
 bx:Int
 tr:Int
 out:List Int
deriving Inhabited,DecidableEq
def unt(M:Mdl)(k:Nat):Unt:=M.units.getD k default
def cur(t:Tk):Co:=t.cs.getD t.now default
def setC(t:Tk)(k:Nat)(c:Co):Tk:={t with cs:=t.cs.set k c}
def setCur(t:Tk)(c:Co):Tk:=setC t t.now c
def topF(c:Co):Fr:=c.fr.getD (c.fr.length-1) default
def setTop(c:Co)(f:Fr):Co:={c with fr:=c.fr.set (c.fr.length-1) f}
def insT(M:Mdl)(t:Tk):Ins:=(unt M (topF (cur t)).unit).code.getD (topF (cur t)).pc default
def begin(M:Mdl)(u:Nat)(a:List Int):Co:=⟨0,none,[⟨u,0,0⟩],(List.range (unt M u).locals.length).map fun i=>a.getD i 0⟩
def new(M:Mdl)(u:Nat):Tk:=⟨[{begin M u []with st:=2}],0,1,0,0,[]⟩
section
variable{ν:Type}(V:Env ν)(M:Mdl)
def trap(n:Int)(s:Tk×ν):Tk×ν:=if s.1.st=5 then s else({s.1 with st:=5,tr:=n},V.tell s.2 (5,0,n))
def push(v:Int)(s:Tk×ν):Tk×ν:=
 if(cur s.1).ws.length=400 then trap V 4 s else(setCur s.1 {cur s.1 with ws:=(cur s.1).ws ++[v]},s.2)
def last(s:Tk):Int:=(cur s).ws.getD ((cur s).ws.length-1) 0
def drop(n:Nat)(t:Tk):Tk:=setCur t {cur t with ws:=(cur t).ws.take ((cur t).ws.length-n)}
def waits(i:Ins)(s:Tk×ν):Tk×ν:=
 if i.op=26∧V.full s.2 i.a.toNat=true then({s.1 with st:=2,bx:=i.a},s.2)
 else if i.op=27∧V.empty s.2 i.a.toNat=true then({s.1 with st:=3,bx:=i.a},s.2)
 else({s.1 with st:=1,bx:=0},s.2)
def look(s:Tk×ν):Tk×ν:=if s.1.st≤3 then waits V (insT M s.1) s else s
def setPc(p:Nat)(t:Tk):Tk:=setCur t (setTop (cur t) {topF (cur t)with pc:=p})
def pushN(V:Env ν):Nat→Tk×ν→Tk×ν
 |0,s=>s
 |n+1,s=>pushN V n (push V 0 s)
def callU(k:Nat)(s:Tk×ν):Tk×ν:=
 if(cur s.1).fr.length=40 then trap V 4 s
 else pushN V ((unt M k).locals.length-(unt M k).params.toNat) (setCur s.1 {cur s.1 with fr:=(cur s.1).fr ++[⟨k,0,(cur s.1).ws.length-(unt M k).params.toNat⟩]},s.2)
def ret(s:Tk×ν):Tk×ν:=
 push V (last s.1) (setCur s.1 {cur s.1 with fr:=(cur s.1).fr.take ((cur s.1).fr.length-1),ws:=((cur s.1).ws.take ((cur s.1).ws.length-1)).take (topF (cur s.1)).base},s.2)
def endU(s:Tk×ν):Tk×ν:=
 match (cur s.1).up with
 |none=>({setCur s.1 {cur s.1 with st:=3}with st:=4},V.tell s.2 (4,0,0))
 |some j=>push V 0 ({setCur s.1 {cur s.1 with st:=3,up:=none}with now:=j},s.2)
def startU(k:Nat)(s:Tk×ν):Tk×ν:=
 let n:=(unt M k).params.toNat
 let a:=(cur s.1).ws.drop ((cur s.1).ws.length-n)
 let t:=drop n s.1
 if 30<t.cs.length then trap V 5 (t,s.2)
 else push V (t.cs.length:Int) ({t with cs:=t.cs ++[begin M k a]},V.tell s.2 (6,0,(k:Int)))
def resumeU(s:Tk×ν):Tk×ν:=
 let v:=last s.1
 let t:=drop 1 s.1
 let k:=(last t).toNat
 let t:=drop 1 t
 let c:=t.cs.getD k default
 if c.st=3 then trap V 2 (t,s.2)
 else if c.st=2 then trap V 3 (t,s.2)
 else
  let t':Tk:={setC t k {c with st:=2,up:=some t.now}with now:=k}
  if c.st=0 then(t',s.2)else push V v (t',s.2)
def yieldU(s:Tk×ν):Tk×ν:=
 let v:=last s.1
 let t:=drop 1 s.1
 push V v ({setCur t {cur t with st:=1,up:=none}with now:=(cur t).up.getD 0},s.2)
def aliveU(s:Tk×ν):Tk×ν:=
 let t:=drop 1 s.1
 push V (yes (!decide ((t.cs.getD (last s.1).toNat default).st=3))) (t,s.2)
def exec(i:Ins)(s:Tk×ν):Tk×ν:=
 let d:=drop 1 s.1
 if i.op=1 then push V i.n s
 else if i.op=2 then push V i.a s
 else if i.op=3 then push V ((cur s.1).ws.getD ((topF (cur s.1)).base+i.a.toNat) 0) s
 else if i.op=4 then(setCur d {cur d with ws:=(cur d).ws.set ((topF (cur d)).base+i.a.toNat) (last s.1)},s.2)
 else if i.op=5 then(d,s.2)
 else if i.op=6 then push V (IntKind.i64.wrap (-(last s.1))) (d,s.2)
 else if i.op=7 then push V (IntKind.i64.wrap (1-last s.1)) (d,s.2)
 else if 8≤i.op∧i.op≤20 then
  if(i.op=11∨i.op=12)∧last s.1=0 then trap V 1 (drop 1 d,s.2)
  else push V (two2 i.op (last d) (last s.1)) (drop 1 d,s.2)
 else if i.op=21 then(setPc i.a.toNat s.1,s.2)
 else if i.op=22 then(if last s.1=0 then setPc i.a.toNat d else d,s.2)
 else if i.op=26 then(d,V.tell (V.put s.2 i.a.toNat (last s.1)) (2,i.a,last s.1))
 else if i.op=27 then push V (V.take s.2 i.a.toNat).1 (s.1,V.tell (V.take s.2 i.a.toNat).2 (3,i.a,(V.take s.2 i.a.toNat).1))
 else if i.op=28 then({d with out:=d.out ++[last s.1]},V.tell s.2 (1,0,last s.1))
 else if i.op=23 then callU V M i.a.toNat s
 else if i.op=24 then ret V s
 else if i.op=25 then endU V s
 else if i.op=29 then startU V M i.a.toNat s
 else if i.op=30 then resumeU V s
 else if i.op=31 then yieldU V s
 else if i.op=32 then aliveU V s
 else s
def step(s:Tk×ν):Bool×(Tk×ν):=
 let s1:=look V M s
 if s1.1.st≠1 then(false,s1)
 else(true,look V M (exec V M (insT M s1.1) (setPc ((topF (cur s1.1)).pc+1) s1.1,s1.2)))
end
end Go.Proofs.YtjehflelkpacfaaGreat.Vm
namespace Go.Proofs.YtjehflelkpacfaaGreat.Opt
open ImgM Ver
def nx(l:List Ins)(p:Nat):Nat:=p+(if(shorter l p).2=0 then 1 else(shorter l p).2)
def em(l:List Ins)(p:Nat):List Ins:=if(shorter l p).2=0 then [at_ l p]else(shorter l p).1
def pcs(l:List Ins):Nat→Nat→List Nat
 |0,_=>[]
 |n+1,p=>if p<l.length then p::pcs l n (nx l p)else []
structure Ran(l:List Ins)(n:Nat)(s r:PS):Prop where
 out:r.out=s.out ++(pcs l n s.p).flatMap (em l)
 old:∀q,q<s.p→r.wh.getD q 0=s.wh.getD q 0
 wh:∀A q C,pcs l n s.p=A ++q::C→r.wh.getD q 0=((s.out.length+(A.flatMap (em l)).length:Nat):Int)
 did:r.did=(s.did||(pcs l n s.p).any fun q=>decide ((shorter l q).2≠0))
 len:r.wh.length=l.length+1
def bs(l:List Ins):List Nat:=pcs l l.length 0
def srcs(l:List Ins)(b:List Nat):List Nat:=b.flatMap fun q=>if em l q=[]then []else [q]
section
variable{M:Mdl}{u:Unt}{i:Ins}{st:List Int}{h:List Bool}
end
section
variable{M:Mdl}{u:Unt}{τ:Int→Option Shape}(hc:Cert M u τ)
include hc
end
end Go.Proofs.YtjehflelkpacfaaGreat.Opt
namespace Go.Proofs.YtjehflelkpacfaaGreat.Vm
open ImgM Ver Opt
theorem fail_ne{e:Int}(he:e≠0){f:Flow}:(fail e f).err≠0:=by
 unfold Ver.fail
 split
 ·exact he
 ·assumption
theorem push_inv{t:Int}{f:Flow}(h:(Ver.push t f).err=0):f.err=0∧Ver.push t f={f with stack:=f.stack ++[t]}∧f.stack.length+1≤300:=by
 unfold Ver.push at h⊢
 split
 ·rename_i h3
  rw[if_pos h3]at h;exact absurd h (fail_ne (by decide))
 ·rename_i h3
  rw[if_neg h3]at h;exact⟨h,rfl,by omega⟩
theorem snoc_of{α:Type} [Inhabited α]{l:List α}(h:¬l.length=0):l=l.take (l.length-1) ++[l.getD (l.length-1) default]:=by
 have:l.length-1+1=l.length:=by omega
 conv=>lhs;rw[←List.take_length (l:=l),←this,Jp (show l.length-1<l.length by omega)]
 rw[Jd,Je (show l.length-1<l.length by omega)];rfl
theorem pop_inv{f:Flow}(h:(pop f).2.err=0):f.err=0∧∃st t,f.stack=st ++[t]∧(pop f).1=t∧(pop f).2={f with stack:=st}:=by
 unfold pop at h⊢
 split
 ·rename_i h0
  rw[if_pos h0]at h;exact absurd h (fail_ne (by decide))
 ·rename_i h0
  rw[if_neg h0]at h;exact⟨h,_,_,snoc_of h0,rfl,rfl⟩
theorem want1_inv{t:Int}{f:Flow}(h:(want1 t f).err=0):f.err=0∧∃st,f.stack=st ++[t]∧want1 t f={f with stack:=st}:=by
 unfold want1 at h⊢
 split
 ·rename_i hn
  rw[if_pos hn]at h;exact absurd h (fail_ne (by decide))
 ·rename_i hn
  rw[if_neg hn]at h;obtain⟨h1,st,t',h2,h3,h4⟩:=pop_inv h;have:t'=t:=Classical.byContradiction fun hx=>hn (by rw[h3];exact hx)
  subst this;exact⟨h1,st,h2,h4⟩
theorem want_inv:∀(l:List Int) {f:Flow},(want l f).err=0→f.err=0∧∃st,f.stack=st ++l∧want l f={f with stack:=st}
 |[],f,h=>⟨h,f.stack,by simp,rfl⟩
 |t::r,f,h=>by
  have hh:want (t::r) f=want1 t (want r f):=rfl;rw[hh]at h⊢;obtain⟨h1,st,h2,h3⟩:=want1_inv h;obtain⟨g1,st',g2,g3⟩:=want_inv r h1;rw[g3]at h2 h3;simp only at h2;exact⟨g1,st,by rw[g2,h2];simp,by rw[g3];exact h3⟩
theorem fail_inv{e:Int}(he:e≠0){c:Prop} [Decidable c]{f:Flow}(h:(if c then fail e f else f).err=0):¬c∧f.err=0:=by
 by_cases hc:c
 ·rw[if_pos hc]at h;exact absurd h (fail_ne he)
 ·rw[if_neg hc]at h;exact⟨hc,h⟩
theorem fail_inv'{e:Int}(he:e≠0){c:Prop} [Decidable c]{f:Flow}(h:(if c then f else fail e f).err=0):c∧f.err=0:=by
 by_cases hc:c
 ·rw[if_pos hc]at h;exact⟨hc,h⟩
 ·rw[if_neg hc]at h;exact absurd h (fail_ne he)
theorem done_inv{f:Flow}(h:(done f).err=0):f.err=0∧f.stack=[]∧done f=f:=by
 unfold done at h⊢
 split
 ·rename_i h0;rw[if_pos h0]at h;exact⟨h,List.eq_nil_of_length_eq_zero h0,rfl⟩
 ·rename_i h0;rw[if_neg h0]at h;exact absurd h (fail_ne (by decide))
inductive Does(M:Mdl)(u:Unt)(i:Ins):List Int→List Bool→List Int→List Bool→Prop
 |const (st h) (hi:i.op=1∨i.op=2):Does M u i st h (st ++[i.op]) h
 |load (st h) (hi:i.op=3) (hh:h.getD i.a.toNat false=true):Does M u i st h (st ++[u.locals.getD i.a.toNat 0]) h
 |store (st h) (hi:i.op=4):Does M u i (st ++[u.locals.getD i.a.toNat 0]) h st (h.set i.a.toNat true)
 |drop (st h t) (hi:i.op=5):Does M u i (st ++[t]) h st h
 |neg (st h) (hi:i.op=6):Does M u i (st ++[1]) h (st ++[1]) h
 |not (st h) (hi:i.op=7):Does M u i (st ++[2]) h (st ++[2]) h
 |arith (st h) (hi:8≤i.op∧i.op≤12):Does M u i (st ++[1,1]) h (st ++[1]) h
 |eq (st h t) (hi:i.op=13∨i.op=14) (ht:t=1∨t=2):Does M u i (st ++[t,t]) h (st ++[2]) h
 |cmp (st h) (hi:15≤i.op∧i.op≤18):Does M u i (st ++[1,1]) h (st ++[2]) h
 |logic (st h) (hi:i.op=19∨i.op=20):Does M u i (st ++[2,2]) h (st ++[2]) h
 |jump (st h) (hi:i.op=21):Does M u i st h st h
 |els (st h) (hi:i.op=22):Does M u i (st ++[2]) h st h
 |call (st h) (hi:i.op=23):Does M u i (st ++(M.units.getD i.a.toNat default).locals.take (M.units.getD i.a.toNat default).params.toNat) h (st ++[(M.units.getD i.a.toNat default).result]) h
 |ret (h) (hi:i.op=24) (hk:u.kind=2):Does M u i [u.result] h [] h
 |end_ (h) (hi:i.op=25) (hk:u.kind≠2):Does M u i [] h [] h
 |send (st h) (hi:i.op=26):Does M u i (st ++[(M.boxes.getD i.a.toNat default).1]) h st h
 |recv (st h) (hi:i.op=27):Does M u i st h (st ++[(M.boxes.getD i.a.toNat default).1]) h
 |out (st h t) (hi:i.op=28):Does M u i (st ++[t]) h st h
 |start (st h) (hi:i.op=29):Does M u i (st ++(M.units.getD i.a.toNat default).locals.take (M.units.getD i.a.toNat default).params.toNat) h (st ++[10+i.a]) h
 |resume (st h k) (hi:i.op=30) (hk:handle M (10+k)=true):Does M u i (st ++[10+k,(M.units.getD k.toNat default).takes]) h (st ++[(M.units.getD k.toNat default).result]) h
 |yield (st h) (hi:i.op=31) (hk:u.kind=3):Does M u i (st ++[u.result]) h (st ++[u.takes]) h
 |alive (st h k) (hi:i.op=32) (hk:handle M (10+k)=true):Does M u i (st ++[10+k]) h (st ++[2]) h
theorem app2{α:Type}(s:List α)(a b:α):s ++[a] ++[b]=s ++[a,b]:=by simp
theorem gen_inv{M:Mdl}{f:Flow}(h:(gen M f).2.err=0):f.err=0∧∃st k,f.stack=st ++[10+k]∧handle M (10+k)=true∧gen M f=(some k,{f with stack:=st}):=by
 unfold gen at h⊢
 by_cases h1:(pop f).2.err≠0
 ·rw[if_pos h1]at h;exact absurd h h1
 rw[if_neg h1]at h⊢
 by_cases h2:handle M (pop f).1=false
 ·rw[if_pos h2]at h;exact absurd h (fail_ne (by decide))
 rw[if_neg h2]at h⊢;obtain⟨g1,st,t,g2,g3,g4⟩:=pop_inv h;rw[g3]at h2⊢;refine⟨g1,st,t-10,by rw[g2];congr 2;omega,?_,?_⟩
 ·rw[show(10:Int)+(t-10)=t by omega];simpa using h2
 ·rw[g4]
theorem sem_does{M:Mdl}{u:Unt}{i:Ins}{st:List Int}{h:List Bool}(ho:1≤i.op∧i.op≤32)(he:(sem M u i (st,h)).err=0):
  Does M u i st h (sem M u i (st,h)).stack (sem M u i (st,h)).has:=by
 unfold sem core at he⊢
 by_cases h21:i.op=21
 ·rw[if_pos h21];exact .jump _ _ h21
 rw[if_neg h21]at he⊢
 by_cases h22:i.op=22
 ·rw[if_pos h22]at he⊢;obtain⟨-,s,g2,g3⟩:=want_inv _ he;simp only at g2;rw[g3];subst g2;exact .els _ _ h22
 rw[if_neg h22]at he⊢;unfold Ver.step at he⊢
 by_cases h1:i.op=1
 ·rw[if_pos h1]at he⊢;obtain⟨-,g2, -⟩:=push_inv he;simp only;rw[g2];have:=Does.const (M:=M) (u:=u) (i:=i) st h (.inl h1);rw[h1]at this;exact this
 rw[if_neg h1]at he⊢
 by_cases h2:i.op=2
 ·rw[if_pos h2]at he⊢;obtain⟨-,g2, -⟩:=push_inv he;simp only;rw[g2];have:=Does.const (M:=M) (u:=u) (i:=i) st h (.inr h2);rw[h2]at this;exact this
 rw[if_neg h2]at he⊢
 by_cases h3:i.op=3
 ·rw[if_pos h3]at he⊢;obtain⟨g1,g2, -⟩:=push_inv he;obtain⟨k1,k2⟩:=fail_inv' (by decide) g1;simp only at k1⊢;rw[g2,if_pos k1];exact .load _ _ h3 k1
 rw[if_neg h3]at he⊢
 by_cases h4:i.op=4
 ·rw[if_pos h4]at he⊢;obtain⟨-,s,g2,g3⟩:=want_inv _ (show(want [u.locals.getD i.a.toNat 0] ⟨[],[],st,h,0⟩).err=0 from he);simp only at g2⊢;rw[g3];subst g2;exact .store _ _ h4
 rw[if_neg h4]at he⊢
 by_cases h5:i.op=5
 ·rw[if_pos h5]at he⊢;obtain⟨-,s,t,g2,g3,g4⟩:=pop_inv he;simp only at g2⊢;rw[g4];subst g2;exact .drop _ _ _ h5
 rw[if_neg h5]at he⊢
 by_cases h6:i.op=6
 ·rw[if_pos h6]at he⊢;obtain⟨g1,g2, -⟩:=push_inv he;obtain⟨-,s,k2,k3⟩:=want_inv _ g1;simp only at k2⊢;rw[g2,k3];subst k2;exact .neg _ _ h6
 rw[if_neg h6]at he⊢
 by_cases h7:i.op=7
 ·rw[if_pos h7]at he⊢;obtain⟨g1,g2, -⟩:=push_inv he;obtain⟨-,s,k2,k3⟩:=want_inv _ g1;simp only at k2⊢;rw[g2,k3];subst k2;exact .not _ _ h7
 rw[if_neg h7]at he⊢
 by_cases h8:8≤i.op∧i.op≤12
 ·rw[if_pos h8]at he⊢;obtain⟨g1,g2, -⟩:=push_inv he;obtain⟨-,s,k2,k3⟩:=want_inv _ g1;simp only at k2⊢;rw[g2,k3];subst k2;exact .arith _ _ h8
 rw[if_neg h8]at he⊢
 by_cases h9:i.op=13∨i.op=14
 ·rw[if_pos h9]at he⊢;obtain⟨g1,g2, -⟩:=push_inv he;obtain⟨g3,s,k2,k3⟩:=want_inv _ g1;obtain⟨q1,q2⟩:=fail_inv (by decide) g3;obtain⟨-,s',t,p2,p3,p4⟩:=pop_inv q2;rw[if_neg q1]at k2 k3 g2⊢;rw[g2,k3];rw[p4]at k2⊢;rw[p3]at q1 k2;simp only at k2 p2⊢;subst k2 p2;rw[app2];refine .eq _ _ _ h9 ?_;omega
 rw[if_neg h9]at he⊢
 by_cases h10:15≤i.op∧i.op≤18
 ·rw[if_pos h10]at he⊢;obtain⟨g1,g2, -⟩:=push_inv he;obtain⟨-,s,k2,k3⟩:=want_inv _ g1;simp only at k2⊢;rw[g2,k3];subst k2;exact .cmp _ _ h10
 rw[if_neg h10]at he⊢
 by_cases h11:i.op=19∨i.op=20
 ·rw[if_pos h11]at he⊢;obtain⟨g1,g2, -⟩:=push_inv he;obtain⟨-,s,k2,k3⟩:=want_inv _ g1;simp only at k2⊢;rw[g2,k3];subst k2;exact .logic _ _ h11
 rw[if_neg h11,if_neg h21,if_neg h22]at he⊢;unfold special at he⊢
 by_cases h23:i.op=23
 ·rw[if_pos h23]at he⊢;obtain⟨g1,g2, -⟩:=push_inv he;obtain⟨-,s,k2,k3⟩:=want_inv _ (show(want _ _).err=0 from g1);simp only at k2⊢;rw[g2];unfold args;rw[k3];subst k2;exact .call _ _ h23
 rw[if_neg h23]at he⊢
 by_cases h29:i.op=29
 ·rw[if_pos h29]at he⊢;obtain⟨g1,g2, -⟩:=push_inv he;obtain⟨-,s,k2,k3⟩:=want_inv _ (show(want _ _).err=0 from g1);simp only at k2⊢;rw[g2];unfold args;rw[k3];subst k2;exact .start _ _ h29
 rw[if_neg h29]at he⊢
 by_cases h24:i.op=24
 ·rw[if_pos h24]at he⊢;obtain⟨g1,g2,g3⟩:=done_inv he;obtain⟨k1,s,k2,k3⟩:=want_inv _ g1;obtain⟨q1,q2⟩:=fail_inv (by decide) k1;rw[if_neg q1]at k2 k3 g2;simp only at k2⊢;rw[g3,if_neg q1,k3];rw[k3]at g2;simp only at g2;subst g2 k2;exact .ret _ h24 (Classical.byContradiction q1)
 rw[if_neg h24]at he⊢
 by_cases h25:i.op=25
 ·rw[if_pos h25]at he⊢;obtain⟨g1,g2,g3⟩:=done_inv he;obtain⟨q1,q2⟩:=fail_inv (by decide) g1;rw[if_neg q1]at g2;simp only at g2⊢;rw[g3,if_neg q1];subst g2;exact .end_ _ h25 q1
 rw[if_neg h25]at he⊢
 by_cases h26:i.op=26
 ·rw[if_pos h26]at he⊢;obtain⟨-,s,g2,g3⟩:=want_inv _ he;simp only at g2⊢;rw[g3];subst g2;exact .send _ _ h26
 rw[if_neg h26]at he⊢
 by_cases h27:i.op=27
 ·rw[if_pos h27]at he⊢;obtain⟨-,g2, -⟩:=push_inv he;simp only;rw[g2];exact .recv _ _ h27
 rw[if_neg h27]at he⊢
 by_cases h28:i.op=28
 ·rw[if_pos h28]at he⊢;obtain⟨q1,q2⟩:=fail_inv (by decide) (show(if(pop ⟨[],[],st,h,0⟩).2.err=0∧plain (pop ⟨[],[],st,h,0⟩).1=false then fail 9 (pop ⟨[],[],st,h,0⟩).2 else(pop ⟨[],[],st,h,0⟩).2).err=0 from he);obtain⟨-,s,t,g2,g3,g4⟩:=pop_inv q2;simp only at g2⊢;rw[if_neg q1,g4];subst g2;exact .out _ _ _ h28
 rw[if_neg h28]at he⊢
 by_cases h30:i.op=30
 ·rw[if_pos h30]at he⊢;have hg:(gen M (pop ⟨[],[],st,h,0⟩).2).2.err=0∧∀k g,gen M (pop ⟨[],[],st,h,0⟩).2=(some k,g)→(pop ⟨[],[],st,h,0⟩).1=(M.units.getD k.toNat default).takes:=by
   revert he
   generalize gen M (pop ⟨[],[],st,h,0⟩).2=G;obtain⟨o,g⟩:=G
   cases o with
   |none=>intro he;exact⟨he,fun k g h=>by cases h⟩
   |some k=>
    intro he;obtain⟨g1, -, -⟩:=push_inv (show(Ver.push _ _).err=0 from he);obtain⟨q1,q2⟩:=fail_inv (by decide) g1;refine⟨q2,fun k' g' h=>?_⟩;simp only[Prod.mk.injEq,Option.some.injEq]at h;obtain⟨rfl,rfl⟩:=h;exact Classical.byContradiction q1
  obtain⟨hg1,hg2⟩:=hg;obtain⟨g1,s,k,g2,g3,g4⟩:=gen_inv hg1;obtain⟨-,s',t,p2,p3,p4⟩:=pop_inv g1;have ht:=hg2 _ _ g4;rw[g4]at he⊢;obtain⟨-,r2, -⟩:=push_inv (show(Ver.push _ _).err=0 from he);simp only at r2⊢;rw[r2,if_neg (fun hx=>hx ht)];rw[p4]at g2⊢;simp only at g2 p2⊢;rw[p3]at ht;subst g2 p2 ht;rw[app2];exact .resume _ _ _ h30 g3
 rw[if_neg h30]at he⊢
 by_cases h31:i.op=31
 ·rw[if_pos h31]at he⊢;obtain⟨g1,g2, -⟩:=push_inv he;obtain⟨k1,s,k2,k3⟩:=want_inv _ g1;obtain⟨q1,q2⟩:=fail_inv (by decide) k1;rw[if_neg q1]at k2 k3;simp only at k2⊢;rw[g2,if_neg q1,k3];subst k2;exact .yield _ _ h31 (Classical.byContradiction q1)
 rw[if_neg h31]at he⊢;have h32:i.op=32:=by omega
 rw[if_pos h32]at he⊢;obtain⟨g1,g2, -⟩:=push_inv he;obtain⟨-,s,k,k2,k3,k4⟩:=gen_inv g1;simp only at k2⊢;rw[g2,k4];subst k2;exact .alive _ _ _ h32 k3
def vOk(gs:List Nat)(t v:Int):Prop:=In64 v∧(t=2→v=0∨v=1)∧(10≤t→∃k:Nat,v=(k:Int)∧k<gs.length∧((gs.getD k 0:Nat):Int)=t-10∧0<k)
theorem vOk.num{gs:List Nat}{v:Int}(h:In64 v):vOk gs 1 v:=⟨h,fun h=>by omega,fun h=>by omega⟩
theorem vOk.bool{gs:List Nat}{b:Bool}:vOk gs 2 (yes b):=by
 cases b
 ·exact⟨by unfold yes In64;simp,fun _=> .inl rfl,fun h=>by omega⟩
 ·exact⟨by unfold yes In64;simp,fun _=> .inr rfl,fun h=>by omega⟩
theorem vOk.truth{gs:List Nat}{v:Int}(h:v=0∨v=1):vOk gs 2 v:=⟨by unfold In64;omega,fun _=>h,fun h=>by omega⟩
theorem vOk.grow{gs gs':List Nat}{t v:Int}(h:vOk gs t v):vOk (gs ++gs') t v:=by
 refine⟨h.1,h.2.1,fun ht=>?_⟩;obtain⟨k,h1,h2,h3,h4⟩:=h.2.2 ht;refine⟨k,h1,by simp;omega,?_,h4⟩;rw[←h3,Jd,List.getElem?_append_left h2,Jd]
inductive Typs(gs:List Nat):List Int→List Int→Prop
 |nil:Typs gs [] []
 |cons {t v:Int} {ts vs:List Int}:vOk gs t v→Typs gs ts vs→Typs gs (t::ts) (v::vs)
theorem Typs.len{gs:List Nat}{a x:List Int}(h:Typs gs a x):a.length=x.length:=by induction h with|nil=>rfl|cons _ _ ih=>simp[ih]
theorem Typs.app{gs:List Nat}{a x b y:List Int}(h:Typs gs a x)(k:Typs gs b y):Typs gs (a ++b) (x ++y):=by induction h with|nil=>exact k|cons h1 _ ih=>exact .cons h1 ih
theorem Typs.split{gs:List Nat}:∀{a b z:List Int},Typs gs (a ++b) z→∃x y,z=x ++y∧Typs gs a x∧Typs gs b y
 |[],b,z,h=>⟨[],z,rfl, .nil,h⟩
 |t::a,b,z,h=>by
  cases h with
  |cons h1 h2=>
   obtain⟨x,y,e,g1,g2⟩:=Typs.split h2;exact⟨_::x,y,by rw[e];rfl, .cons h1 g1,g2⟩
theorem Typs.one{gs:List Nat}{t v:Int}(h:vOk gs t v):Typs gs [t] [v]:= .cons h .nil
theorem Typs.un1{gs:List Nat}{t:Int}{y:List Int}(h:Typs gs [t] y):∃v,y=[v]∧vOk gs t v:=by
 cases h with
 |cons h1 h2=>cases h2;exact⟨_,rfl,h1⟩
theorem Typs.un2{gs:List Nat}{t u:Int}{y:List Int}(h:Typs gs [t,u] y):∃v w,y=[v,w]∧vOk gs t v∧vOk gs u w:=by
 cases h with
 |cons h1 h2=>obtain⟨w,rfl,hw⟩:=Typs.un1 h2;exact⟨_,_,rfl,h1,hw⟩
theorem Typs.grow{gs gs':List Nat}{a x:List Int}(h:Typs gs a x):Typs (gs ++gs') a x:=by induction h with|nil=>exact .nil|cons h1 _ ih=>exact .cons h1.grow ih
theorem Typs.in64{gs:List Nat}{a x:List Int}(h:Typs gs a x):∀v∈x,In64 v:=by
 induction h with
 |nil=>intro v h;cases h
 |cons h1 _ ih=>intro v h;rcases List.mem_cons.1 h with rfl|h;exact h1.1;exact ih v h
structure Loc(gs:List Nat)(ts:List Int)(h:List Bool)(loc:List Int):Prop where
 len:loc.length=ts.length
 ok:∀j,j<ts.length→h.getD j false=true→vOk gs (ts.getD j 0) (loc.getD j 0)
 in64:∀v∈loc,In64 v
theorem Loc.le{gs:List Nat}{ts:List Int}{h h':List Bool}{loc:List Int}(a:Loc gs ts h loc)(b:Le h' h):Loc gs ts h' loc:=⟨a.len,fun j hj x=>a.ok j hj (b.2 j x),a.in64⟩
theorem Loc.grow{gs gs':List Nat}{ts:List Int}{h:List Bool}{loc:List Int}(a:Loc gs ts h loc):Loc (gs ++gs') ts h loc:=⟨a.len,fun j hj x=>(a.ok j hj x).grow,a.in64⟩
theorem getD_setZ{l:List Int}{k j:Nat}{v:Int}(hk:k<l.length):(l.set k v).getD j 0=if k=j then v else l.getD j 0:=by
 simp only[Jd,List.getElem?_set]
 by_cases h:k=j
 ·subst h;simp[hk]
 ·simp[h]
theorem Loc.put{gs:List Nat}{ts:List Int}{h:List Bool}{loc:List Int}(a:Loc gs ts h loc){k:Nat}(hk:k<ts.length){v:Int}(hv:vOk gs (ts.getD k 0) v):Loc gs ts (h.set k true) (loc.set k v):=by
 have hl:=a.len;refine⟨by rw[Ji];exact hl,fun j hj x=>?_,fun w hw=>?_⟩
 ·rw[getD_setZ (by omega)]
  by_cases hkj:k=j
  ·subst hkj;rw[if_pos rfl];exact hv
  ·rw[if_neg hkj];refine a.ok j hj ?_;rw[getD_setB,if_neg (by omega)]at x;exact x
 ·rcases List.mem_or_eq_of_mem_set hw with hw|rfl
  ·exact a.in64 w hw
  ·exact hv.1
section
variable(M:Mdl)(T:Nat→Int→Option Shape)
def Seg(gs:List Nat)(q p:Nat)(seg pend:List Int):Prop:=
 q<M.units.length∧∃st h loc op,T q (p:Int)=some (st ++pend,h)∧seg=loc ++op∧Loc gs (unt M q).locals h loc∧Typs gs st op
inductive Stk(gs:List Nat):List Fr→List Int→List Int→Prop
 |one {q p:Nat} {seg pend:List Int} (h:Seg M T gs q p seg pend):Stk gs [⟨q,p,0⟩] seg pend
 |more {fs:List Fr} {ws:List Int} {q p:Nat} {seg pend:List Int} (hs:Stk gs fs ws [(unt M q).result]) (hk:(unt M q).kind=2) (h:Seg M T gs q p seg pend):Stk gs (fs ++[⟨q,p,ws.length⟩]) (ws ++seg) pend
def Under(gs:List Nat)(q:Nat)(fs:List Fr)(ws:List Int):Prop:=(fs=[]∧ws=[])∨(Stk M T gs fs ws [(unt M q).result]∧(unt M q).kind=2)
end
section
variable{M:Mdl}{T:Nat→Int→Option Shape}{gs gs':List Nat}
theorem Seg.grow{q p:Nat}{seg pend:List Int}(h:Seg M T gs q p seg pend):Seg M T (gs ++gs') q p seg pend:=by
 obtain⟨h1,st,hh,loc,op,h2,h3,h4,h5⟩:=h;exact⟨h1,st,hh,loc,op,h2,h3,h4.grow,h5.grow⟩
theorem Stk.grow{fs:List Fr}{ws pend:List Int}(h:Stk M T gs fs ws pend):Stk M T (gs ++gs') fs ws pend:=by
 induction h with
 |one h=>exact .one h.grow
 |more _ hk h ih=>exact .more ih hk h.grow
theorem Stk.view{fs:List Fr}{ws pend:List Int}(h:Stk M T gs fs ws pend):∃fs0 ws0 q p seg,fs=fs0 ++[⟨q,p,ws0.length⟩]∧ws=ws0 ++seg∧Seg M T gs q p seg pend∧Under M T gs q fs0 ws0:=by
 cases h with
 |one h=>exact⟨[],[],_,_,_,rfl,rfl,h, .inl ⟨rfl,rfl⟩⟩
 |more hs hk h=>exact⟨_,_,_,_,_,rfl,rfl,h, .inr ⟨hs,hk⟩⟩
theorem Under.stk{q p:Nat}{fs:List Fr}{ws seg pend:List Int}(h:Under M T gs q fs ws)(k:Seg M T gs q p seg pend):Stk M T gs (fs ++[⟨q,p,ws.length⟩]) (ws ++seg) pend:=by
 rcases h with⟨rfl,rfl⟩|⟨h1,h2⟩
 ·exact .one k
 ·exact .more h1 h2 k
end
def bot(fs:List Fr):Nat:=(fs.getD 0 default).unit
theorem bot_snoc(fs:List Fr)(f f':Fr)(h:f'.unit=f.unit):bot (fs ++[f'])=bot (fs ++[f]):=by
 cases fs with
 |nil=>exact h
 |cons a r=>rfl
theorem bot_app(fs gs:List Fr)(h:fs≠[]):bot (fs ++gs)=bot fs:=by
 cases fs with
 |nil=>exact absurd rfl h
 |cons a r=>rfl
def gsOf(t:Tk):List Nat:=t.cs.map fun c=>bot c.fr
def co(t:Tk)(k:Nat):Co:=t.cs.getD k default
structure Ok(M:Mdl)(T:Nat→Int→Option Shape)(t:Tk)(ch:List Nat):Prop where
 now:ch[0]?=some t.now
 few:t.cs.length≤31
 nodup:ch.Nodup
 mem:∀k∈ch,k<t.cs.length
 going:∀k,k<t.cs.length→((co t k).st=2↔k∈ch)
 chain:∀i k,ch[i]?=some k→(co t k).up=ch[i+1]?
 root:∀i k,ch[i]?=some k→ch[i+1]?=none→k=0
 top:Stk M T (gsOf t) (cur t).fr (cur t).ws []
 wait:∀i d k,ch[i]?=some d→ch[i+1]?=some k→Stk M T (gsOf t) (co t k).fr (co t k).ws [(unt M (bot (co t d).fr)).result]
 fresh:∀k,k<t.cs.length→(co t k).st=0→Stk M T (gsOf t) (co t k).fr (co t k).ws []
 held:∀k,k<t.cs.length→(co t k).st=1→Stk M T (gsOf t) (co t k).fr (co t k).ws [(unt M (bot (co t k).fr)).takes]
 lens:∀k,k<t.cs.length→(co t k).ws.length≤400∧(co t k).fr.length≤40
 kinds:∀k,k<t.cs.length→bot (co t k).fr<M.units.length∧(unt M (bot (co t k).fr)).kind=if k=0 then 4 else 3
 sts:∀k,k<t.cs.length→(co t k).st≤3
theorem Ok.nowlt{M:Mdl}{T:Nat→Int→Option Shape}{t:Tk}{ch:List Nat}(h:Ok M T t ch):t.now<t.cs.length:=h.mem _ (List.mem_of_getElem? h.now)
theorem cur_co(t:Tk):cur t=co t t.now:=rfl
theorem co_setC{t:Tk}{k j:Nat}{c:Co}(h:k<t.cs.length):co (setC t k c) j=if k=j then c else co t j:=by
 unfold co setC;simp only[Jd,List.getElem?_set]
 by_cases hk:k=j
 ·subst hk;simp[h]
 ·simp[hk]
theorem setC_len(t:Tk)(k:Nat)(c:Co):(setC t k c).cs.length=t.cs.length:=Ji
theorem cur_set{t:Tk}{c:Co}(h:t.now<t.cs.length):cur (setCur t c)=c:=by
 show co (setC t t.now c) t.now=c;rw[co_setC h,if_pos rfl]
theorem set_set(t:Tk)(c d:Co):setCur (setCur t c) d=setCur t d:=by
 unfold setCur setC;simp[List.set_set]
theorem set_now(t:Tk)(c:Co):(setCur t c).now=t.now:=rfl
theorem set_len(t:Tk)(c:Co):(setCur t c).cs.length=t.cs.length:=Ji
theorem gsOf_len(t:Tk):(gsOf t).length=t.cs.length:=Jf _
theorem gsOf_at(t:Tk){k:Nat}(h:k<t.cs.length):(gsOf t).getD k 0=bot (co t k).fr:=by
 unfold gsOf co;rw[Jd,JU,Je h,Jd,Je h];rfl
theorem gsOf_setC{t:Tk}{k:Nat}{c:Co}(h:k<t.cs.length)(hb:bot c.fr=bot (co t k).fr):gsOf (setC t k c)=gsOf t:=by
 unfold gsOf setC;simp only[List.map_set];rw[hb];refine List.ext_getElem (by simp) (fun i h1 h2=>?_);rw[List.getElem_set]
 split
 ·rename_i hi;subst hi
  unfold co;rw[List.getElem_map,Jd,Je h];rfl
 ·rfl
theorem nodup_at:∀{l:List Nat},l.Nodup→∀{i j a:Nat},l[i]?=some a→l[j]?=some a→i=j
 |[],_,i,j,a,h,_=>by simp at h
 |x::l,hn,i,j,a,hi,hj=>by
  obtain⟨h1,h2⟩:=List.nodup_cons.1 hn
  cases i with
  |zero=>
   cases j with
   |zero=>rfl
   |succ j=>
    simp at hi hj;subst hi;exact absurd (List.mem_of_getElem? hj) h1
  |succ i=>
   cases j with
   |zero=>
    simp at hi hj;subst hj;exact absurd (List.mem_of_getElem? hi) h1
   |succ j=>
    have:=nodup_at h2 (i:=i) (j:=j) (a:=a) (by simpa using hi) (by simpa using hj);omega
theorem Ok.put{M:Mdl}{T:Nat→Int→Option Shape}{t:Tk}{ch:List Nat}(h:Ok M T t ch){c:Co}(hst:c.st=(cur t).st)(hup:c.up=(cur t).up)(hb:bot c.fr=bot (cur t).fr)
  (hs:Stk M T (gsOf t) c.fr c.ws []) (hl:c.ws.length≤400∧c.fr.length≤40):Ok M T (setCur t c) ch:=by
 have hn:=h.nowlt;have hg:gsOf (setCur t c)=gsOf t:=gsOf_setC hn hb;have hc:∀j,co (setCur t c) j=if t.now=j then c else co t j:=fun j=>co_setC hn
 have hcur:(co (setCur t c) t.now)=c:=by rw[hc,if_pos rfl]
 have hst':∀j,(co (setCur t c) j).st=(co t j).st:=fun j=>by
  rw[hc];split
  ·rename_i e;subst e;exact hst
  ·rfl
 have hup':∀j,(co (setCur t c) j).up=(co t j).up:=fun j=>by
  rw[hc];split
  ·rename_i e;subst e;exact hup
  ·rfl
 have hb':∀j,bot (co (setCur t c) j).fr=bot (co t j).fr:=fun j=>by
  rw[hc];split
  ·rename_i e;subst e;exact hb
  ·rfl
 have hne:∀j,t.now≠j→co (setCur t c) j=co t j:=fun j hj=>by rw[hc,if_neg hj]
 have hin:t.now∈ch:=List.mem_of_getElem? h.now;refine⟨h.now,by rw[set_len];exact h.few,h.nodup,by rw[set_len];exact h.mem,fun k hk=>?_,fun i k hk=>?_,h.root,?_,fun i d k hd hk=>?_,fun k hk h0=>?_,fun k hk h1=>?_,fun k hk=>?_,fun k hk=>?_,fun k hk=>?_⟩
 ·rw[set_len]at hk;rw[hst'];exact h.going k hk
 ·rw[hup'];exact h.chain i k hk
 ·rw[hg,cur_set hn];exact hs
 ·rw[hg,hb'];have hk':t.now≠k:=fun e=>by
   subst e;have h0:=h.now;have:=nodup_at h.nodup h0 hk;omega
  rw[hne k hk'];exact h.wait i d k hd hk
 ·rw[set_len]at hk;rw[hst']at h0;have hk':t.now≠k:=fun e=>by subst e;have:=(h.going _ hk).2 hin;omega
  rw[hg,hne k hk'];exact h.fresh k hk h0
 ·rw[set_len]at hk;rw[hst']at h1;have hk':t.now≠k:=fun e=>by subst e;have:=(h.going _ hk).2 hin;omega
  rw[hg,hne k hk'];exact h.held k hk h1
 ·rw[set_len]at hk;rw[hc];split
  ·exact hl
  ·exact h.lens k hk
 ·rw[set_len]at hk;rw[hb'];exact h.kinds k hk
 ·rw[set_len]at hk;rw[hst'];exact h.sts k hk
end Go.Proofs.YtjehflelkpacfaaGreat.Vm
namespace Go.Proofs.YtjehflelkpacfaaGreat.Opt
open ImgM Ver
def src(l:List Ins):List Nat:=srcs l (bs l)
section
variable{M:Mdl}{u:Unt}{τ:Int→Option Shape}(hc:Cert M u τ)
include hc
end
structure UOk(M:Mdl)(u:Unt):Prop where
 head:head M u=0
 ins:∀i∈u.code,instr M u i=0
 cert:∃τ,Cert M u τ
theorem head_len{M:Mdl}{u:Unt}(h:Ver.head M u=0):1≤u.code.length∧u.code.length≤4000:=by
 unfold Ver.head at h
 by_cases e1:u.kind≠2∧u.kind≠3∧u.kind≠4
 ·rw[if_pos e1]at h;cases h
 rw[if_neg e1]at h
 by_cases e2:200<u.locals.length∨u.params<0∨6<u.params∨(u.locals.length:Int)<u.params∨(u.kind=4∧0<u.params)
 ·rw[if_pos e2]at h;cases h
 rw[if_neg e2]at h
 by_cases e3:u.code.length<1∨4000<u.code.length
 ·rw[if_pos e3]at h;cases h
 omega
theorem truth_in{M:Mdl}{u:Unt}{i:Ins}(h:instr M u i=0)(ho:i.op=2):i.a=0∨i.a=1:=by
 unfold instr at h;rw[if_pos ho]at h;have:=rng_eq h;rw[Bool.or_eq_true,JV,JV]at this;exact this
theorem yes_in(b:Bool):yes b=0∨yes b=1:=by cases b<;>simp[yes]
theorem two2_truth{op x y:Int}(h:12<op)(h20:op≤20)(hx:18<op→(x=0∨x=1)∧(y=0∨y=1)):two2 op x y=0∨two2 op x y=1:=by
 unfold two2;rw[if_neg (by omega),if_neg (by omega),if_neg (by omega),if_neg (by omega)]
 repeat' split
 all_goals first|exact yes_in _|skip
 ·obtain⟨h1,h2⟩:=hx (by omega);rcases h1 with rfl|rfl<;>rcases h2 with rfl|rfl<;>decide
 ·obtain⟨h1,h2⟩:=hx (by omega);rcases h1 with rfl|rfl<;>rcases h2 with rfl|rfl<;>decide
theorem mem_at{l:List Ins}{q:Nat}(hq:q<l.length):at_ l q∈l:=by
 unfold at_;rw[Jd,Je hq];exact List.getElem_mem _
end Go.Proofs.YtjehflelkpacfaaGreat.Opt
