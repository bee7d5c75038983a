/- A heap of things that is only read: pointers into it, loads, slices of it. Of whatever program. -/
import Derived.Test.YtofckcabpchcmaaGreatDoorM14
set_option linter.unusedVariables false
set_option linter.unusedSimpArgs false
set_option linter.unusedSectionVars false
set_option maxRecDepth 100000
namespace Go.Proofs.YtofckcabpchcmaaGreatDoor
section
open Go Go.RowKit
@[irreducible] def bE (cs : List Chunk) : Chunk where
 holds w:=∀c∈cs,c.holds w
 cO b:=∃c∈cs,c.cO b
 bB:=false
 kY k hs h:=fun c hc=>c.kY k (fun b hb=>hs b ⟨c,hc,hb⟩) (h c hc)
 lt h b hb:=by obtain⟨c,hc,hb⟩:=hb;exact c.lt (h c hc) b hb
theorem zG{w:World}{cs:List Chunk}:(bE cs).holds w↔∀c∈cs,c.holds w:=by unfold bE;exact Iff.rfl
theorem CH{b:Nat}{cs:List Chunk}:(bE cs).cO b↔∃c∈cs,c.cO b:=by unfold bE;exact Iff.rfl
@[simp] theorem FM {cs : List Chunk} : (bE cs).bB = false := by unfold bE; rfl
theorem Reads.bE{w:World}{cs R F F':List Chunk}(t:Take (Proofs.YtofckcabpchcmaaGreatDoor.aR cs) F F')(h:Reads w R F):Reads w (Proofs.YtofckcabpchcmaaGreatDoor.bE cs::R) F:=
 .cons t FM (fun h=>⟨zG.2 (pP.1 h).1.all,fun b hb=>wI.2 (CH.1 hb)⟩) h
def Has(cs:List Chunk)(b o:Nat)(vs:List Value):Prop:=∀w,(bE cs).holds w→∀j v,vs[j]?=some v→w.cell? ⟨b,o+j,none⟩=some v
def ob(a:Option Addr):Nat:=match a with
 |some a=>a.block
 |none=>0
def oo(a:Option Addr):Nat:=match a with
 |some a=>a.off
 |none=>0
section
variable{α:Type} [Inhabited α]{f:α→List Value} [bF f]{ao:Option Addr}{n c:Nat}{e:TypeId}{l:List α}{cs:List Chunk}{w:World}
theorem ME(h:(bE cs).holds w)(hm:arr ao n c e f l∈cs):Row w (.slice ao n c) (sz f) n (l.flatMap f)∧l.length=n:=by
 have h:=fH.1 (zG.1 h _ hm);exact⟨h.1.row bF.pos,h.2⟩
theorem UR(h:(bE cs).holds w)(hm:arr ao n c e f l∈cs)(hn:0<n):ao=some ⟨ob ao,oo ao,none⟩:=by
 obtain⟨b,o,he⟩:=(ME h hm).1.form hn;rw[he];rfl
theorem Has.elem(hm:arr ao n c e f l∈cs){i:Nat}(hi:i<n):Has cs (ob ao) (oo ao+i*sz f) (f (l.getD i default)):=fun w h j v hv=>by
 obtain⟨hr,hl⟩:=ME h hm;have hp:=UR h hm (by omega);rw[hp]at hr;have h1:=hr.Z4 (i*sz f+j) (by
  have hj:j<sz f:=by
   unfold sz;rw[←bF.len (f:=f) (l.getD i default)];exact(tT.1 hv).1
  have:(i+1)*sz f≤n*sz f:=Nat.mul_le_mul_right _ hi;rw[Nat.add_mul]at this;omega)
 rw[Nat.add_assoc,h1];rw[IT f l i (by omega) j (by
  unfold sz;rw[←bF.len (f:=f) (l.getD i default)];exact(tT.1 hv).1)]
 exact hv
theorem Has.part{b o:Nat}{vs us:List Value}(h:Has cs b o vs)(k:Nat)(hu:∀j v,us[j]?=some v→vs[k+j]?=some v):Has cs b (o+k) us:=fun w hw j v hv=>by
 rw[Nat.add_assoc];exact h w hw _ v (hu j v hv)
end
section
variable{P:Program} [eP P]{N:Nd}{E:Env}{L L':List Chunk}{dst:Option Tmp}{ty:TypeId}{pos:String}{aft:Array Edge}{g:Option (Nat×Bool)}{cs:List Chunk}{b o:Nat}{vs:List Value}
theorem Still.aCO{x:Operand}{t:TypeId}{off:Nat}{v:Value}{ti:jK}(hx:ev E x=some (.pointer (some ⟨b,o+off,none⟩)))(ht:aW P t=some ti)(hd:ti.d.row=false)(hm:Take (bE cs) L L')(hh:Has cs b o vs)(hv:vs[off]?=some v):Still P N ⟨dst, .load t x,ty,pos,aft,g⟩ E L v:=fun A w hs hM=>by
 have hc:=hh w (hM.has hm) off v hv;simp[execOp,hs.ev hx,Instr.loadAt,Instr.sureAddr,loadVar,(b7 ht).isAgg hd,load,hc]
theorem Still.yR{x:Operand}{t:TypeId}{off s' b':Nat}{fs:List (Nat×TypeId)}{z' ds:List Value}(hx:ev E x=some (.pointer (some ⟨b,o+off,none⟩)))(ht:aW P t=some ⟨.struct fs,s',b',z'⟩)(hm:Take (bE cs) L L')(hh:Has cs b o vs)(hv:Cut vs off s' ds):Still P N ⟨dst, .load t x,ty,pos,aft,g⟩ E L (.agg ds.toArray):=fun A w hs hM=>by
 obtain⟨hl,hg⟩:=hv.get;obtain⟨l,h1, -⟩:=(b7 ht).struct;obtain⟨x',z,h3,h4, -⟩:=(b7 ht).info;have:=run_loadAt_mid (P:=P) w b (o+off) t ds _ (fun j v hj=>by
  have:=hh w (hM.has hm) (off+j) v (hg j v hj);rwa [←Nat.add_assoc]at this) h1 rfl (by rw[h3];simp[h4,hl])
 simp[execOp,hs.ev hx,this]
theorem Still.uH{α:Type}{iα:Inhabited α}{f:α→List Value}{ef:bF f}{ao:Option Addr}{n c:Nat}{e:TypeId}{l:List α}{t:TypeId}{x ix:Operand}{k:IntKind}{j:Int}{i s' b' s2 b2:Nat}{z' z2:List Value}{d2:cV}(hx:ev E x=some (.slice ao n c))(hi:ev E ix=some (.int k j))(hm:Take (bE cs) L L')(hr:arr ao n c e f l∈cs)
  (ht:aW P t=some ⟨.slice e,s',b',z'⟩) (he:aW P e=some ⟨d2,s2,b2,z2⟩) (hs:s2=sz f) (hj:j=(i:Int)) (hlt:i<n):Still P N ⟨dst, .indexAddr t x ix,ty,pos,aft,g⟩ E L (.pointer (some ⟨ob ao,oo ao+i*sz f,none⟩)):=fun A w hS hM=>by
 have hp:=UR (hM.has hm) hr (by omega);subst hj;have h0:(0:Int)≤(i:Int)∧(i:Int)<(n:Int):=by omega
 have hz:(sizeOf e).run P w= .ok s2 w:=(b7 he).size w;subst hs;have hx':=hS.ev hx;rw[hp]at hx';simp[execOp,hx',hS.ev hi,Instr.indexAt,asIntOf,run_underlying (b7 ht).slice,h0,hz,Addr.sS,hlt]
end
theorem Fh{A:Prop}(h:A:=by(first|(apply Still.yR;exact rfl;exact rfl;(focus ((repeat(first|exact Take.head|apply Take.tail));done));(focus assumption);(repeat(first|exact Cut.done|apply Cut.take|apply Cut.skip));done)|exact Fs|(apply Still.aCO;exact rfl;exact rfl;exact rfl;(focus ((repeat(first|exact Take.head|apply Take.tail));done));(focus assumption);exact rfl)|(apply Still.uH;exact rfl;exact rfl;(focus ((repeat(first|exact Take.head|apply Take.tail));done));(focus assumption);exact rfl;exact rfl;exact rfl;(first|exact(rfl:(0:Int)=((0:Nat):Int))|exact iK _|exact rfl);omega))):A:=h
theorem Fk{A G:Prop}(k:G)(h:Bx G→A:=by intro hk;(first|(apply aE.op;exact rfl;refine aA.b8 (h:=Fh) (k:=?_))|(refine aE.gL (h:=?_);refine aA.b8 (h:=Fh) (k:=?_))|refine aM.b8 (h:=Fh) (k:=?_)|refine aM.gL (h:=Fh) (k:=?_)|refine aP.b8 (h:=Fh) (k:=?_)|refine aP.gL (h:=Fh) (k:=?_));exact hk.out):A:=h ⟨k⟩
theorem Fz{A G:Prop}(k:G)(h:Bx G→A:=by intro hk;(first|(refine Jo ?_;exact hk.out)|(refine Fk ?_;exact hk.out)|(refine JB ?_;exact hk.out)|(refine JA ?_;exact hk.out))):A:=h ⟨k⟩
end
namespace Fr
open ImgM
def nd(depth n:Nat):Option Nat:=if 2000<n+1∨40<depth then none else some (n+1)
def gA(k:Int):Int:=if k≤3∨k=20 then 0 else if k≤5∨k=21∨k=24 then 1 else if k≤18∨k=23 then 2 else -1
def m8(k n:Int)(s:aF)(m:Nat):Bool:=
 decide (1≤k)&&decide (k≤24)&& !(decide (k=1)&&(decide (n<0)||decide (999999999999999<n)))&& !(decide (k=2)&& !decide (n=0)&& !decide (n=1))
  && !((decide (k=3)||decide (k=20)||decide (gA k<0))&& !named s)&& !(decide (0≤gA k)&& !decide ((m:Int)=gA k))&& !(decide (gA k<0)&&decide (6<m))
mutual
def iD(depth:Nat):Ex→Nat→Option Nat
 | .mk k n s l,c=>(nd depth c).bind fun c=>if m8 k n s l.length=true then iW (depth+1) l c else none
def iW(depth:Nat):List Ex→Nat→Option Nat
 |[],c=>some c
 |x::l,c=>(iD depth x c).bind (iW depth l)
end
def s4(k:Int)(s:aF):Bool:=decide (1≤k)&&decide (k≤9)&& !((decide (k=1)||decide (k=2)||decide (k=7))&& !named s)
mutual
def jO(depth:Nat):St→Nat→Option Nat
 | .mk k s x b e,c=>(nd depth c).bind fun c=>if s4 k s=true then(if k=6 then some c else
   (iD (depth+1) x c).bind fun c=>(if k=3∨k=4 then(if 50<b.length then none else dZ (depth+1) b c)else some c).bind fun c=>if k=3 then(if 50<e.length then none else dZ (depth+1) e c)else some c)else none
def dZ(depth:Nat):List St→Nat→Option Nat
 |[],c=>some c
 |x::l,c=>(jO depth x c).bind (dZ depth l)
end
def jP(t:Ty):Bool:=decide (1≤t.kind)&&decide (t.kind≤3)&& !(decide (t.kind=3)&& !named t.gen)
def nX(d:Df)(c:Nat):Option Nat:=(nd 1 c).bind fun c=>
 if(decide (1≤d.kind)&&decide (d.kind≤4)&&named d.name
  && !((decide (d.kind=2)||decide (d.kind=3))&& !(decide (d.params.length≤6)&&d.params.all fun p=>named p.name&&jP p.type))
  && !(decide (d.kind=3)&& !jP d.aS)&& !(!decide (d.kind=4)&& !jP d.type))=true
 then(if d.kind=1 then(if d.cap<1∨20<d.cap then none else some c)else if 50<d.body.length then none else dZ 2 d.body c)else none
def kW:List Df→Nat→Option Nat
 |[],c=>some c
 |d::l,c=>(nX d c).bind (kW l)
def shaped(l:List Df):Bool:=decide (l.length≤30)&&(kW l 0).isSome
--what programs mean
def cS(t:Ty):Bool:=!decide (t.kind=3)
def bare(t:Ty):Ty:=if cS t=true then⟨t.kind,[]⟩else t
abbrev Scope:=List (List (aF×Ty))
def at_{α:Type}(m:List (aF×α))(s:aF):Option α:=(m.find? fun x=>decide (x.1=s)).map (·.2)
def eL{α:Type}:List (List (aF×α))→aF→Option α
 |[],_=>none
 |b::r,s=>match at_ b s with
  |some t=>some t
  |none=>eL r s
section
variable(P:List Df)
def kP(s:aF):Option Df:=P.find? fun d=>decide (d.name=s)
def jY(k:Int)(s:aF):Option Df:=(kP P s).bind fun d=>if d.kind=k then some d else none
def kE:Ty:=⟨1,[]⟩
def gJ:Ty:=⟨2,[]⟩
variable(D:Df)
def same(t:Option Ty)(want:Ty):Option Unit:=t.bind fun t=>if t=bare want then some ()else none
mutual
def b5(B:Scope):Ex→Option Ty
 | .mk k n s l=>
  if k=1 then some kE
  else if k=2 then some gJ
  else if k=3 then eL B s
  else if k=4 then(eD B [kE] l).map fun _=>kE
  else if k=5 then(eD B [gJ] l).map fun _=>gJ
  else if k=11∨k=12 then(kK B l).bind fun ts=>match ts with
   |[a,b]=>if a=b∧cS a=true then some gJ else none
   |_=>none
  else if k=19 then(jY P 2 s).bind fun d=>(eD B (d.params.map (·.type)) l).map fun _=>bare d.type
  else if k=20 then(jY P 1 s).map fun d=>bare d.type
  else if k=21 then(if D.kind=3 then(eD B [D.type] l).map fun _=>bare D.aS else none)
  else if k=22 then(jY P 3 s).bind fun d=>(eD B (d.params.map (·.type)) l).map fun _=>⟨3,s⟩
  else if k=23 then(kK B l).bind fun ts=>match ts with
   |[h,v]=>if cS h=true then none else(kP P h.gen).bind fun d=>if v=bare d.aS then some (bare d.type)else none
   |_=>none
  else if k=24 then(kK B l).bind fun ts=>match ts with
   |[h]=>if cS h=true then none else some gJ
   |_=>none
  else
   let want:=if 17≤k then gJ else kE
   (eD B (l.map fun _=>want) l).map fun _=>if 13≤k then gJ else kE
def eD(B:Scope):List Ty→List Ex→Option Unit
 |[],[]=>some ()
 |t::ts,x::l=>(same (b5 B x) t).bind fun _=>eD B ts l
 |_,_=>none
def kK(B:Scope):List Ex→Option (List Ty)
 |[]=>some []
 |x::l=>(b5 B x).bind fun t=>(kK B l).map (t::·)
end
mutual
def mK(B:Scope):St→Option Scope
 | .mk k s x b e=>
  if k=1 then(b5 P D B x).bind fun t=>if(eL B s).isSome then none else match B with
   |[]=>none
   |c::r=>some ((c ++[(s,t)])::r)
  else if k=2 then(eL B s).bind fun t=>(same (b5 P D B x) t).map fun _=>B
  else if k=3∨k=4 then(same (b5 P D B x) gJ).bind fun _=>(e8 ([]::B) b).bind fun _=>if k=4 then some B else(e8 ([]::B) e).map fun _=>B
  else if k=5 then(if D.kind=2 then(same (b5 P D B x) D.type).map fun _=>B else none)
  else if k=6 then(if D.kind=2 then none else some B)
  else if k=7 then(jY P 1 s).bind fun d=>(same (b5 P D B x) d.type).map fun _=>B
  else if k=8 then(b5 P D B x).bind fun t=>if cS t=true then some B else none
  else(b5 P D B x).map fun _=>B
def e8(B:Scope):List St→Option Scope
 |[]=>some B
 |x::l=>(mK B x).bind fun B=>e8 B l
end
end
def iX(P:List Df)(t:Ty):Bool:=cS t||(jY P 3 t.gen).isSome
def iT(P:List Df)(d:Df):Bool:=
 !((decide (d.kind=2)||decide (d.kind=3))&& !(decide ((d.params.map (·.name)).Nodup)&&d.params.all fun p=>iX P p.type))
  && !(decide (d.kind=3)&& !cS d.aS)&& !(!decide (d.kind=4)&& !cS d.type)
def mB(P:List Df)(d:Df):Bool:=decide (d.kind=1)||(e8 P d [[],if d.kind=4 then []else d.params.map fun p=>(p.name,bare p.type)] d.body).isSome
mutual
def qA:Ex→List aF×List aF
 | .mk k n s l=>let r:=nJ l;((if k=19∨k=22 then [s]else []) ++r.1,(if k=20 then [s]else []) ++r.2)
def nJ:List Ex→List aF×List aF
 |[]=>([],[])
 |x::l=>((qA x).1 ++(nJ l).1,(qA x).2 ++(nJ l).2)
end
structure Us where
 calls:List aF
 nF:List aF
 nE:List aF
instance:Inhabited Us:=⟨⟨[],[],[]⟩⟩
def Us.add(a b:Us):Us:=⟨a.calls ++b.calls,a.nF ++b.nF,a.nE ++b.nE⟩
mutual
def sD:St→Us
 | .mk k s x b e=>((⟨[],if k=7 then [s]else [],[]⟩:Us).add (if k=6 then default else⟨(qA x).1,[],(qA x).2⟩)).add ((if k=3∨k=4 then cT b else default).add (if k=3 then cT e else default))
def cT:List St→Us
 |[]=>default
 |x::l=>(sD x).add (cT l)
end
def nD(P:List Df):Nat→List aF→List Df→List aF×List aF
 |0,_,_=>([],[])
 |_,_,[]=>([],[])
 |n+1,fU,d::todo=>
  let u:=cT d.body
  let new:=u.calls.foldl (fun(h:List aF×List aF) s=>if s∈h.1 then h else(h.1 ++[s],h.2 ++[s])) (fU,[])
  let r:=nD P n new.1 (todo ++new.2.filterMap (kP P))
  (u.nF ++r.1,u.nE ++r.2)
def zB(P:List Df):Bool:=
 (P.filter fun d=>decide (d.kind=1)).all fun b=>
  let ts:=P.filter fun d=>decide (d.kind=4)
  decide ((ts.filter fun t=>decide (b.name∈(nD P (P.length+1) [] [t]).1)).length≤1)&&decide ((ts.filter fun t=>decide (b.name∈(nD P (P.length+1) [] [t]).2)).length≤1)
def check(P:List Df):Bool:=shaped P&&decide ((P.map (·.name)).Nodup)&&(P.any fun d=>decide (d.kind=4))&&P.all (iT P)&&P.all (mB P)&&zB P
--modules
section
variable(P:List Df)
def pQ(s:aF):Nat:=((P.filter fun d=>decide (d.kind=1)).findIdx? fun d=>decide (d.name=s)).getD 0
def gC(s:aF):Nat:=((P.filter fun d=>!decide (d.kind=1)).findIdx? fun d=>decide (d.name=s)).getD 0
def dE(t:Ty):Int:=if t.kind=3 then 10+(gC P t.gen:Int)else t.kind
structure Wr where
 locals:List Int
 code:List aY
 blocks:List (List (aF×Nat))
def Wr.put(w:Wr)(op a:Int)(n:Int):Wr:={w with code:=w.code ++[⟨op,a,n⟩]}
def Wr.lU(w:Wr)(s:aF)(t:Int):Wr:={w with locals:=w.locals ++[t],blocks:=match w.blocks with
 |[]=>[]
 |b::r=>(b ++[(s,w.locals.length)])::r}
def Wr.look(w:Wr)(s:aF):Nat:=(eL w.blocks s).getD 0
def p9(s:aF):Int:=match kP P s with
 |some d=>dE P d.type
 |none=>0
variable(aS:Int)
mutual
def cJ:Ex→Wr→Wr×Int
 | .mk k n s l,w0=>
  let (w,ts):=dN l w0
  if k=1 then(w.put 1 0 n,1)
  else if k=2 then(w.put 2 n 0,2)
  else if k=3 then(w.put 3 (w.look s) 0,w.locals.getD (w.look s) 0)
  else if k=4 then(w.put 6 0 0,1)
  else if k=5 then(w.put 7 0 0,2)
  else if 6≤k∧k≤18 then(w.put (8+k-6) 0 0,if k≤10 then 1 else 2)
  else if k=19 then(w.put 23 (gC P s) 0,p9 P s)
  else if k=20 then(w.put 27 (pQ P s) 0,p9 P s)
  else if k=22 then(w.put 29 (gC P s) 0,10+(gC P s:Int))
  else if k=21 then(w.put 31 0 0,aS)
  else if k=24 then(w.put 32 0 0,2)
  else(w.put 30 0 0,match (P.filter fun d=>!decide (d.kind=1))[(ts.headD 0-10).toNat]? with
   |some d=>dE P d.type
   |none=>0)
def dN:List Ex→Wr→Wr×List Int
 |[],w=>(w,[])
 |x::l,w=>let (w,t):=cJ x w;let (w,ts):=dN l w;(w,t::ts)
end
def Wr.open_(w:Wr):Wr:={w with blocks:=[]::w.blocks}
def Wr.close(w:Wr):Wr:={w with blocks:=w.blocks.tail}
def Wr.patch(w:Wr)(k a:Nat):Wr:={w with code:=w.code.set k {w.code.getD k default with a:=(a:Int)}}
mutual
def pA:St→Wr→Wr
 | .mk k s x b e,w=>
  if k=3 then
   let w:=((cJ P aS x w).1).put 22 0 0
   let no:=w.code.length-1
   let w:=((eA b w.open_).close).put 21 0 0
   let end_:=w.code.length-1
   let w:=w.patch no w.code.length
   let w:=(eA e w.open_).close
   w.patch end_ w.code.length
  else if k=4 then
   let top:=w.code.length
   let w:=((cJ P aS x w).1).put 22 0 0
   let no:=w.code.length-1
   let w:=((eA b w.open_).close).put 21 top 0
   w.patch no w.code.length
  else if k=6 then w.put 25 0 0
  else
   let (w,t):=cJ P aS x w
   if k=1 then(w.lU s t).put 4 w.locals.length 0
   else if k=2 then w.put 4 (w.look s) 0
   else if k=5 then w.put 24 0 0
   else if k=7 then w.put 26 (pQ P s) 0
   else if k=8 then w.put 28 0 0
   else if k=9 then w.put 5 0 0
   else w
def eA:List St→Wr→Wr
 |[],w=>w
 |x::l,w=>eA l (pA x w)
end
end
def q0(P:List Df)(d:Df):bS:=
 let ps:=if d.kind=4 then []else d.params
 let aS:=if d.kind=3 then dE P d.aS else 0
 let w:Wr:=ps.foldl (fun w p=>w.lU p.name (dE P p.type)) ⟨[],[],[[]]⟩
 let w:=(eA P aS d.body w.open_).close
 let res:=if d.kind=4 then 0 else dE P d.type
 let w:=if d.kind=2 then(w.put (if res=2 then 2 else 1) 0 0).put 24 0 0 else w.put 25 0 0
 ⟨d.kind,if d.kind=4 then 0 else(d.params.length:Int),w.locals,res,aS,w.code⟩
def compile(P:List Df):Option aG:=
 if check P=true then
  let us:=(P.filter fun d=>!decide (d.kind=1)).map (q0 P)
  if us.any fun u=>decide (200<u.locals.length)||decide (4000<u.code.length)then none
  else some ⟨(P.filter fun d=>decide (d.kind=1)).map fun d=>(dE P d.type,d.cap),us⟩
 else none
def module(s:aF):Option aG:=(parse s).bind compile
end Fr
namespace Vw
open Go.RowKit Img
section
attribute [local irreducible] aE aB End aA Still aM aP RunT Fn aO
attribute [local irreducible] Fr.named
theorem EL.ind{p:EL→Prop}(h:∀x,(∀y∈x.kids,p y)→p x)(x:EL):p x:=by
 suffices H:∀(n:_root_.Nat) (x:EL),SizeOf.sizeOf x<n→p x from H _ x (Nat.lt_succ_self _)
 intro n
 induction n with
 |zero=>intro x hx;omega
 |succ n ih=>
  intro x hx;refine h x (fun y hy=>ih y ?_);have h1:=List.sizeOf_lt_of_mem hy
  cases x with
  |mk k m s o c l=>simp only[EL.mk.sizeOf_spec]at hx;dsimp only[EL.kids]at h1;omega
structure mQ(cs:List Chunk)(b o:Nat)(x:EL):Prop where
 has:Has cs b o (dU x)
 sub:∀c∈x.mem,c∈cs
theorem mQ.arr{cs:List Chunk}{b o:Nat}{x:EL}(h:mQ cs b o x):Proofs.YtofckcabpchcmaaGreatDoor.arr x.o x.kids.length x.c 257 dU x.kids∈cs:=h.sub _ (by
 cases x;rw[EL.mem];exact gU)
theorem mQ.lF{cs:List Chunk}{b o:Nat}{x:EL}(h:mQ cs b o x){i:Nat}(hi:i<x.kids.length):mQ cs (ob x.o) (oo x.o+i*sz dU) (x.kids.getD i default):=⟨Has.elem h.arr hi,fun c hc=>h.sub c (by
 cases x with
 |mk k n s o c' l=>
  rw[EL.mem,K7];exact iO _ (wA.2 ⟨_,dQ hi,hc⟩))⟩
abbrev Wf(pb:Nat)(f:FuncId)(args:List Value)(R:List Chunk)(c:Nat)(ρ:Option Nat):Prop:=
 Fn Tryz.prog f args.toArray R [aD pb [.int .i64 (c:Int)] 217] (σ:=Int×Nat) (fun x=>(x.1=0∧ρ=some x.2∧x.2≤2000)∨(x.1≠0∧ρ=none)) (fun x=> .int .i64 x.1) (fun x=>[aD pb [.int .i64 (x.2:Int)] 217])
theorem NY(pb c:Nat)(hc:c≤2000)(d:Nat):Wf pb 133 [ptr pb, .int .i64 (d:Int)] [] c (Fr.nd d c):=by
 refine JE [ptr pb, .int .i64 (d:Int)] Tryz.func133 Tryz.ntmps133 fun w S=>?_;refine Jn ?_
 repeat' (first|(refine Fy ?_)|refine gG (k:=fun h=>?_) (k':=fun h=>?_)|fail)
 ·exact End.aH (4,c+1) (he:=rfl) (hp:= .inr ⟨by show(4:Int)≠0;decide,by unfold Fr.nd;rw[if_pos (by omega)]⟩)
 ·exact End.aH (4,c+1) (he:=rfl) (hp:= .inr ⟨by show(4:Int)≠0;decide,by unfold Fr.nd;rw[if_pos (by omega)]⟩)
 ·exact End.aH (0,c+1) (he:=rfl) (hp:= .inl ⟨rfl,by unfold Fr.nd;rw[if_neg (by omega)],by dsimp only;omega⟩)
theorem CW(t:Fr.Ty):Fn Tryz.prog 134 #[.agg #[.int .i64 t.kind,sv t.gen]] [bN] [] (σ:=Int) (fun e=>(e=0∧Fr.jP t=true)∨(e≠0∧Fr.jP t=false)) (fun e=> .int .i64 e) (fun _=>[]):=by
 refine JE [.agg #[.int .i64 t.kind,sv t.gen]] Tryz.func134 Tryz.ntmps134 fun w S=>?_;refine Jn ?_
 have key:Fr.jP t=true↔1≤t.kind∧t.kind≤3∧¬(t.kind=3∧Fr.named t.gen=false):=by
  unfold Fr.jP;by_cases h1:1≤t.kind<;>by_cases h2:t.kind≤3<;>by_cases h3:t.kind=3<;>cases Fr.named t.gen<;>simp[h1,h2,h3]
 have kf:Fr.jP t=false↔¬(1≤t.kind∧t.kind≤3∧¬(t.kind=3∧Fr.named t.gen=false)):=by rw[←key];cases Fr.jP t<;>simp
 repeat' (first|(refine Fy ?_;try intro b)|(refine FQ (y0 t.gen) ?_;intro z hz;refine Jn ?_)|refine gG (k:=fun h=>?_) (k':=fun h=>?_)|fail)
 all_goals first
  |refine End.aH 1 (he:=rfl) (hp:= .inr ⟨by show(1:Int)≠0;decide,kf.2 ?_⟩)
  |refine End.aH 7 (he:=rfl) (hp:= .inr ⟨by show(7:Int)≠0;decide,kf.2 ?_⟩)
  |refine End.aH 0 (he:=rfl) (hp:= .inl ⟨rfl,key.2 ?_⟩)
 all_goals (simp_all;try omega)
theorem aH1(k:Int):Fn Tryz.prog 186 #[.int .i64 k] [] [] (σ:=Int) (fun e=>e=Fr.gA k) (fun e=> .int .i64 e) (fun _=>[]):=by
 refine JE [.int .i64 k] Tryz.func186 Tryz.ntmps186 fun w S=>?_;refine Jn ?_
 repeat' (first|(refine Fy ?_)|refine gG (k:=fun h=>?_) (k':=fun h=>?_)|fail)
 all_goals first
  |refine End.aH 0 (he:=rfl) (hp:=?_)
  |refine End.aH 1 (he:=rfl) (hp:=?_)
  |refine End.aH 2 (he:=rfl) (hp:=?_)
  |refine End.aH (-1) (he:=rfl) (hp:=?_)
 all_goals
  show _=Fr.gA k;unfold Fr.gA
  repeat' split
 all_goals omega
theorem nR{α:Type} [Inhabited α]{l:List α}{k:Nat}(h:k<l.length):l.drop k=l.getD k default::l.drop (k+1):=by
 rw[List.drop_eq_getElem_cons h];simp[List.getD,Je h]
theorem I7(k n:Int)(s:aF)(m:Nat):∃nm:Int,(Fr.named s=true→nm=1)∧(Fr.named s=false→nm=0)∧(Fr.m8 k n s m=true↔1≤k∧k≤24∧¬(k=1∧(n<0∨999999999999999<n))∧¬(k=2∧n≠0∧n≠1)∧¬((k=3∨k=20∨Fr.gA k<0)∧nm=0)∧¬(0≤Fr.gA k∧(m:Int)≠Fr.gA k)∧¬(Fr.gA k<0∧6<m)):=by
 refine⟨if Fr.named s=true then 1 else 0,fun h=>if_pos h,fun h=>if_neg (by simp[h]),?_⟩;unfold Fr.m8
 cases hs:Fr.named s<;>simp[and_assoc,or_assoc]<;>intro _ _<;>omega
theorem aJ.ind{p:aJ→Prop}(h:∀x,(∀y∈x.body,p y)→(∀y∈x.eY,p y)→p x)(x:aJ):p x:=by
 suffices H:∀(n:_root_.Nat) (x:aJ),SizeOf.sizeOf x<n→p x from H _ x (Nat.lt_succ_self _)
 intro n
 induction n with
 |zero=>intro x hx;omega
 |succ n ih=>
  intro x hx
  cases x with
  |mk k s x bo bc b eo ec e=>
   simp only[aJ.mk.sizeOf_spec]at hx;refine h _ (fun y hy=>ih y ?_) (fun y hy=>ih y ?_)
   all_goals
    have h1:=List.sizeOf_lt_of_mem hy;dsimp only[aJ.body,aJ.eY]at h1;omega
structure rK(cs:List Chunk)(b o:Nat)(x:aJ):Prop where
 has:Has cs b o (fJ x)
 sub:∀c∈x.mem,c∈cs
structure sR(cs:List Chunk)(o:Option Addr)(c:Nat)(l:List aJ):Prop where
 arr:Proofs.YtofckcabpchcmaaGreatDoor.arr o l.length c 259 fJ l∈cs
 sub:∀d∈aJ.cU l,d∈cs
section
variable{cs:List Chunk}{b o:Nat}{x:aJ}
theorem rK.ex(h:rK cs b o x):mQ cs b (o+2) x.x:=⟨h.has.part 2 (fun j v hv=>by rcases j with _|_|_|_|j<;>(first|(simp[dU,fJ]at hv;done)|simpa[dU,fJ]using hv)),fun c hc=>h.sub c (by
 cases x;rw[aJ.mem];exact rG _ hc)⟩
theorem rK.body(h:rK cs b o x):sR cs x.bo x.bc x.body:=by
 cases x;exact⟨h.sub _ (by rw[aJ.mem];exact sK _ gU),fun d hd=>h.sub _ (by rw[aJ.mem];exact sK _ (iO _ (rG _ hd)))⟩
theorem rK.eY(h:rK cs b o x):sR cs x.eo x.ec x.eY:=by
 cases x;exact⟨h.sub _ (by rw[aJ.mem];exact sK _ (iO _ (sK _ gU))),fun d hd=>h.sub _ (by rw[aJ.mem];exact sK _ (iO _ (sK _ (iO _ hd))))⟩
theorem sR.lF{a:Option Addr}{c:Nat}{l:List aJ}(h:sR cs a c l){i:Nat}(hi:i<l.length):rK cs (ob a) (oo a+i*sz fJ) (l.getD i default):=⟨Has.elem h.arr hi,fun c hc=>h.sub c (by
 rw[M3];exact wA.2 ⟨_,dQ hi,hc⟩)⟩
end
abbrev G7(pb:Nat)(cs:List Chunk)(x:aJ):Prop:=∀(b o d c:Nat),rK cs b o x→c≤2000→d≤41→Wf pb 159 [ptr pb, .pointer (some ⟨b,o,none⟩), .int .i64 (d:Int)] [bE cs,bN] c (Fr.jO d x.st c)
theorem CV(pb:Nat)(cs:List Chunk)(a:Option Addr)(ca:Nat)(l:List aJ)(ih:∀y∈l,G7 pb cs y)(d c:Nat)(hl:sR cs a ca l)(hc:c≤2000)(hd:d≤41):Wf pb 135 [ptr pb, .slice a l.length ca, .int .i64 (d:Int)] [bE cs,bN] c (if 50<l.length then none else Fr.dZ d (aJ.bR l) c):=by
 refine JE [ptr pb, .slice a l.length ca, .int .i64 (d:Int)] Tryz.func135 Tryz.ntmps135 fun w S=>?_;refine Jn ?_
 by_cases h5:50<l.length
 ·repeat(refine Fz ?_)
  exact End.aH (5,c) (he:=rfl) (hp:= .inr ⟨show(5:Int)≠0 by decide,if_pos h5⟩)
 have ha:=hl.arr
 repeat(refine Fz ?_)
 refine aB.only ((fun s=>[aI w S,bE cs,bN,aD pb [.int .i64 (s.2:Int)] 217]) (0,c)) (aK) ?_;apply aB.loop (σ:=Nat×Nat) (fun s=>s.1≤l.length∧s.2≤2000∧Fr.dZ d (aJ.bR l) c=Fr.dZ d (aJ.bR (l.drop s.1)) s.2) (fun s=>[(0,ptr pb),(1, .slice a l.length ca),(2, .int .i64 (d:Int)),(6, .int .i64 0),(13, .int .i64 (l.length:Int)),(14, .int .i64 (s.1:Int))]) (fun s=>[aI w S,bE cs,bN,aD pb [.int .i64 (s.2:Int)] 217]) (fun s=>l.length-s.1) (0,c)
 rotate_left
 exact sb;exact aK;intro s hs K hK;(refine Jn ?_)
 rotate_left
 ·exact⟨bP _,hc,rfl⟩
 obtain⟨k,c2⟩:=s;obtain⟨hk',hc2,hr⟩:=hs;dsimp only at hk' hc2 hr⊢;rw[if_neg h5]
 by_cases hlt:k<l.length
 ·have hs:Fr.dZ d (aJ.bR (l.drop k)) c2=(Fr.jO d (l.getD k default).st c2).bind (Fr.dZ d (aJ.bR (l.drop (k+1)))):=by
   rw[nR hlt,aJ.bR,Fr.dZ]
  repeat(refine Fz ?_)
  refine FQ (ih _ (dQ hlt) _ _ d c2 (hl.lF hlt) hc2 hd) ?_;intro e he;refine Jn ?_;obtain⟨e,c3⟩:=e;rcases he with⟨he,hn,hc3⟩|⟨he,hn⟩
  ·dsimp only at he hn hc3;subst he
   repeat(refine Fz ?_)
   exact End.bK hK (k+1,c3) ⟨hlt,hc3,by rw[hr,hs,hn];rfl⟩ (by dsimp only;omega)
  ·have he':decide (e=0)=false:=decide_eq_false he
   repeat(refine Fz ?_)
   exact End.aH (e,c3) (he:=rfl) (hp:= .inr ⟨he,by rw[hr,hs,hn];rfl⟩)
 ·repeat(refine Fz ?_)
  exact End.aH (0,c2) (he:=rfl) (hp:= .inl ⟨rfl,by rw[hr,lD (by omega)];rfl,hc2⟩)
theorem D9(k:Int)(s:aF):∃nm:Int,(Fr.named s=true→nm=1)∧(Fr.named s=false→nm=0)∧(Fr.s4 k s=true↔1≤k∧k≤9∧¬((k=1∨k=2∨k=7)∧nm=0)):=by
 refine⟨if Fr.named s=true then 1 else 0,fun h=>if_pos h,fun h=>if_neg (by simp[h]),?_⟩;unfold Fr.s4
 cases hs:Fr.named s<;>simp[and_assoc,or_assoc]
end
end Vw
end Go.Proofs.YtofckcabpchcmaaGreatDoor
