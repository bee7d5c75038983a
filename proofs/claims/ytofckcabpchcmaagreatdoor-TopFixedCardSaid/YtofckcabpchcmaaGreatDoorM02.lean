/- The operations, over states that are said by lists: what yields a value and does no more. Of whatever program whose types a table says. -/
import Derived.Test.YtofckcabpchcmaaGreatDoorM01
import Derived.Deep.MidRow
import Derived.IntWalk
import Derived.Great.BuildSlice
import Derived.Laws.MakeOwn
set_option linter.unusedVariables false
set_option linter.unusedSimpArgs false
set_option linter.unusedSectionVars false
set_option maxRecDepth 100000
namespace Go.Proofs.YtofckcabpchcmaaGreatDoor
section
open Go
inductive cV where
 |bool|int (k:IntKind)|string|pointer (e:TypeId)|slice (e:TypeId)|struct (fs:List (Nat×TypeId))|map (k v:TypeId)|other
def tO:TypeDesc→cV
 | .bool=> .bool| .int k=> .int k| .string=> .string| .pointer e=> .pointer e| .slice e=> .slice e
 | .struct fs=> .struct (fs.toList.map fun f=>(f.offset,f.type))| .map k v=> .map k v|_=> .other
structure jK where
 d:cV
 size:Nat
 bytes:Nat
 zero:List Value
structure iI(P:Program)(t:TypeId)(i:jK):Prop where
 AB:(P.underlying t).map tO=some i.d
 inf:(P.info? t).map (fun x=>(x.size,x.bytes,x.zero.map (·.cells.toList)))=some (i.size,i.bytes,some i.zero)
class eP (P:Program) where
 zR:List (TypeId×jK)
 ok:∀p∈zR,iI P p.1 p.2
theorem R3{α:Type}:∀{l:List (Nat×α)} {d:Nat} {v:α},look l d=some v→(d,v)∈l
 |[],_,_,h=>by cases h
 |(k,u)::r,d,v,h=>by
  rw[yU]at h
  by_cases hk:k=d
  ·subst hk;rw[if_pos rfl]at h;cases h;exact List.mem_cons_self
  ·rw[if_neg hk]at h;exact List.mem_cons_of_mem _ (R3 h)
section
variable{P:Program} [eP P]
abbrev aW(P:Program) [eP P](t:TypeId):Option jK:=look (eP.zR P) t
theorem b7{t:TypeId}{i:jK}(h:aW P t=some i):iI P t i:=eP.ok (t,i) (R3 h)
theorem iI.info{t:TypeId}{i:jK}(h:iI P t i):∃x z,P.info? t=some x∧x.size=i.size∧x.bytes=i.bytes∧x.zero=some z∧z.cells.toList=i.zero:=by
 have:=h.inf
 cases hx:P.info? t with
 |none=>rw[hx]at this;cases this
 |some x=>
  rw[hx]at this;simp only[Option.map_some,Option.some.injEq,Prod.mk.injEq]at this;obtain⟨h1,h2,h3⟩:=this
  cases hz:x.zero with
  |none=>rw[hz]at h3;cases h3
  |some z=>rw[hz]at h3;exact⟨x,z,rfl,h1,h2,hz,by simpa using h3⟩
theorem iI.vK{t:TypeId}{i:jK}(h:iI P t i):∃d,P.underlying t=some d∧tO d=i.d:=by
 have:=h.AB
 cases hx:P.underlying t with
 |none=>rw[hx]at this;cases this
 |some d=>rw[hx]at this;exact⟨d,rfl,by simpa using this⟩
theorem iI.slice{t e:TypeId}{s b:Nat}{z:List Value}(h:iI P t ⟨.slice e,s,b,z⟩):P.underlying t=some (.slice e):=by
 obtain⟨d,h1,h2⟩:=h.vK;rw[h1]
 cases d<;>simp[tO]at h2
 rw[h2]
theorem iI.int{t:TypeId}{k:IntKind}{s b:Nat}{z:List Value}(h:iI P t ⟨.int k,s,b,z⟩):P.underlying t=some (.int k):=by
 obtain⟨d,h1,h2⟩:=h.vK;rw[h1]
 cases d<;>simp[tO]at h2
 rw[h2]
theorem iI.string{t:TypeId}{s b:Nat}{z:List Value}(h:iI P t ⟨.string,s,b,z⟩):P.underlying t=some .string:=by
 obtain⟨d,h1,h2⟩:=h.vK;rw[h1]
 cases d<;>simp[tO]at h2
 rfl
theorem iI.map{t k v:TypeId}{s b:Nat}{z:List Value}(h:iI P t ⟨.map k v,s,b,z⟩):P.underlying t=some (.map k v):=by
 obtain⟨d,h1,h2⟩:=h.vK;rw[h1]
 cases d<;>simp[tO]at h2
 rw[h2.1,h2.2]
theorem iI.pointer{t e:TypeId}{s b:Nat}{z:List Value}(h:iI P t ⟨.pointer e,s,b,z⟩):P.underlying t=some (.pointer e):=by
 obtain⟨d,h1,h2⟩:=h.vK;rw[h1]
 cases d<;>simp[tO]at h2
 rw[h2]
theorem iI.struct{t:TypeId}{fs:List (Nat×TypeId)}{s b:Nat}{z:List Value}(h:iI P t ⟨.struct fs,s,b,z⟩):∃l,P.underlying t=some (.struct l)∧l.toList.map (fun f=>(f.offset,f.type))=fs:=by
 obtain⟨d,h1,h2⟩:=h.vK;rw[h1]
 cases d<;>simp[tO]at h2
 exact⟨_,rfl,by simpa using h2⟩
def cV.row:cV→Bool
 | .struct _=>true
 | .other=>true
 |_=>false
theorem iI.size{t:TypeId}{i:jK}(h:iI P t i)(w:World):(sizeOf t).run P w= .ok i.size w:=by
 obtain⟨x,z,h1,h2, -⟩:=h.info;simp[sizeOf,typeInfo,h1,h2]
theorem iI.isAgg{t:TypeId}{i:jK}(h:iI P t i)(hd:i.d.row=false)(w:World):(Go.isAgg t).run P w= .ok false w:=by
 obtain⟨d,h1,h2⟩:=h.vK;unfold Go.isAgg;rw[Sem.run_bind,run_underlying h1 w]
 cases d<;>simp_all[tO,cV.row]<;>(rw[←h2]at hd;simp at hd)
variable{Q:Exit→Act→World→Prop}{N:Nd}{E:Env}{L:List Chunk}
variable{dst:Option Tmp}{ty:TypeId}{pos:String}{aft:Array Edge}{g:Option (Nat×Bool)}
theorem Still.move{x:Operand}{v:Value}(hx:ev E x=some v):Still P N ⟨dst, .move x,ty,pos,aft,g⟩ E L v:=fun a w hs _=>by simp[execOp,hs.ev hx]
theorem Still.assign{x:Operand}{v:Value}(hx:ev E x=some v):Still P N ⟨dst, .assign x,ty,pos,aft,g⟩ E L v:=fun a w hs _=>by simp[execOp,hs.ev hx]
theorem Still.aEH{c x y:Operand}{v:Value}(hc:ev E c=some (.bool true))(hx:ev E x=some v):Still P N ⟨dst, .pick c x y,ty,pos,aft,g⟩ E L v:=fun a w hs _=>by simp[execOp,hs.ev hc,hs.ev hx,asBool]
theorem Still.aEF{c x y:Operand}{v:Value}(hc:ev E c=some (.bool false))(hy:ev E y=some v):Still P N ⟨dst, .pick c x y,ty,pos,aft,g⟩ E L v:=fun a w hs _=>by simp[execOp,hs.ev hc,hs.ev hy,asBool]
section
variable{xT yT:TypeId}{x y:Operand}{k:IntKind}{a b z:Int}
theorem Still.add(hx:ev E x=some (.int k a))(hy:ev E y=some (.int k b))(hz:k.wrap (a+b)=z):Still P N ⟨dst, .binOp .add xT x y yT,ty,pos,aft,g⟩ E L (.int k z):=fun A w hs _=>by
 subst hz;simp[execOp,hs.ev hx,hs.ev hy,eqGuard,binOp,Op.intArith]
theorem Still.sub(hx:ev E x=some (.int k a))(hy:ev E y=some (.int k b))(hz:k.wrap (a-b)=z):Still P N ⟨dst, .binOp .sub xT x y yT,ty,pos,aft,g⟩ E L (.int k z):=fun A w hs _=>by
 subst hz;simp[execOp,hs.ev hx,hs.ev hy,eqGuard,binOp,Op.intArith]
theorem Still.mul(hx:ev E x=some (.int k a))(hy:ev E y=some (.int k b))(hz:k.wrap (a*b)=z):Still P N ⟨dst, .binOp .mul xT x y yT,ty,pos,aft,g⟩ E L (.int k z):=fun A w hs _=>by
 subst hz;simp[execOp,hs.ev hx,hs.ev hy,eqGuard,binOp,Op.intArith]
theorem Still.Y5(hx:ev E x=some (.int k a))(hy:ev E y=some (.int k b)):Still P N ⟨dst, .binOp .and xT x y yT,ty,pos,aft,g⟩ E L (.int k (bits .and k a b)):=fun A w hs _=>by
 simp[execOp,hs.ev hx,hs.ev hy,eqGuard,binOp_and,intBits_and]
theorem Still.bor(hx:ev E x=some (.int k a))(hy:ev E y=some (.int k b)):Still P N ⟨dst, .binOp .or xT x y yT,ty,pos,aft,g⟩ E L (.int k (bits .or k a b)):=fun A w hs _=>by
 simp[execOp,hs.ev hx,hs.ev hy,eqGuard,binOp_or,intBits_or]
theorem Still.quo(hx:ev E x=some (.int k a))(hy:ev E y=some (.int k b))(hb:b≠0)(hz:k.wrap (a.tdiv b)=z):Still P N ⟨dst, .binOp .quo xT x y yT,ty,pos,aft,g⟩ E L (.int k z):=fun A w hs _=>by
 subst hz;simp[execOp,hs.ev hx,hs.ev hy,eqGuard,binOp,Op.intDiv,hb]
theorem Still.rem(hx:ev E x=some (.int k a))(hy:ev E y=some (.int k b))(hb:b≠0)(hz:a.tmod b=z):Still P N ⟨dst, .binOp .rem xT x y yT,ty,pos,aft,g⟩ E L (.int k z):=fun A w hs _=>by
 subst hz;simp[execOp,hs.ev hx,hs.ev hy,eqGuard,binOp,Op.intDiv,hb]
theorem Still.lss(hx:ev E x=some (.int k a))(hy:ev E y=some (.int k b)):Still P N ⟨dst, .binOp .lss xT x y yT,ty,pos,aft,g⟩ E L (.bool (decide (a<b))):=fun A w hs _=>by
 simp[execOp,hs.ev hx,hs.ev hy,eqGuard,binOp,Op.intCmp]
theorem Still.leq(hx:ev E x=some (.int k a))(hy:ev E y=some (.int k b)):Still P N ⟨dst, .binOp .leq xT x y yT,ty,pos,aft,g⟩ E L (.bool (decide (a≤b))):=fun A w hs _=>by
 simp[execOp,hs.ev hx,hs.ev hy,eqGuard,binOp,Op.intCmp]
theorem Still.gtr(hx:ev E x=some (.int k a))(hy:ev E y=some (.int k b)):Still P N ⟨dst, .binOp .gtr xT x y yT,ty,pos,aft,g⟩ E L (.bool (decide (b<a))):=fun A w hs _=>by
 simp[execOp,hs.ev hx,hs.ev hy,eqGuard,binOp,Op.intCmp]
theorem Still.geq(hx:ev E x=some (.int k a))(hy:ev E y=some (.int k b)):Still P N ⟨dst, .binOp .geq xT x y yT,ty,pos,aft,g⟩ E L (.bool (decide (b≤a))):=fun A w hs _=>by
 simp[execOp,hs.ev hx,hs.ev hy,eqGuard,binOp,Op.intCmp]
theorem Still.eql(hx:ev E x=some (.int k a))(hy:ev E y=some (.int k b)):Still P N ⟨dst, .binOp .eql xT x y yT,ty,pos,aft,g⟩ E L (.bool (decide (a=b))):=fun A w hs _=>by
 have e:(a==b)=decide (a=b):=by rw[Bool.eq_iff_iff];simp
 simp[execOp,hs.ev hx,hs.ev hy,eqGuard,binOp,Op.intCmp,e]
theorem Still.neq(hx:ev E x=some (.int k a))(hy:ev E y=some (.int k b)):Still P N ⟨dst, .binOp .neq xT x y yT,ty,pos,aft,g⟩ E L (.bool (!decide (a=b))):=fun A w hs _=>by
 have e:(a !=b)= !decide (a=b):=by rw[bne];congr 1
 simp[execOp,hs.ev hx,hs.ev hy,eqGuard,binOp,Op.intCmp,e]
theorem Still.not{t:Bool}(hx:ev E x=some (.bool t)):Still P N ⟨dst, .unOp .not xT x,ty,pos,aft,g⟩ E L (.bool (!t)):=fun A w hs _=>by
 simp[execOp,hs.ev hx,Op.unary]
theorem Still.neg(hx:ev E x=some (.int k a))(hz:k.wrap (0-a)=z):Still P N ⟨dst, .unOp .neg xT x,ty,pos,aft,g⟩ E L (.int k z):=fun A w hs _=>by
 subst hz;simp[execOp,hs.ev hx,Op.unary,Op.intArith]
theorem Still.conv{src d:TypeId}{k':IntKind}{i:jK}{s' b':Nat}{z':List Value}(hx:ev E x=some (.int k a))(hs:aW P src=some i)(hd:aW P d=some ⟨.int k',s',b',z'⟩)(hz:k'.wrap a=z):
  Still P N ⟨dst, .convert src d x,ty,pos,aft,g⟩ E L (.int k' z):=fun A w hS _=>by
 subst hz;obtain⟨u,hu, -⟩:=(b7 hs).vK;have h2:=(b7 hd).int;simp[execOp,hS.ev hx,convert,run_underlying hu,run_underlying h2,Conv.intToInt]
end
theorem dA{a:Int}(h: -9223372036854775808≤a∧a≤9223372036854775807):IntKind.i64.wrap a=a:=by
 have e1:(2:Int)^64=18446744073709551616:=by decide
 have e2:(2:Int)^63=9223372036854775808:=by decide
 simp only[IntKind.wrap,IntKind.bits,IntKind.signed,e1,e2,Bool.true_and]
 by_cases hn:0≤a
 ·rw[Int.emod_eq_of_lt hn (by omega),if_neg (by simp;omega)]
 ·have:a % 18446744073709551616=a+18446744073709551616:=by omega
  rw[this,if_pos (by simp;omega)];omega
theorem AJ{a:Int}(h:0≤a∧a≤18446744073709551615):IntKind.u64.wrap a=a:=by
 have e1:(2:Int)^64=18446744073709551616:=by decide
 simp only[IntKind.wrap,IntKind.bits,IntKind.signed,e1,Bool.false_and,Bool.false_eq_true,if_false];exact Int.emod_eq_of_lt h.1 (by omega)
theorem AK{a:Int}(h:0≤a∧a≤255):IntKind.u8.wrap a=a:=by
 have e1:(2:Int)^8=256:=by decide
 simp only[IntKind.wrap,IntKind.bits,IntKind.signed,e1,Bool.false_and,Bool.false_eq_true,if_false];exact Int.emod_eq_of_lt h.1 (by omega)
theorem Still.nilCheck{x:Operand}{ad:Addr}(hx:ev E x=some (.pointer (some ad))):Still P N ⟨dst, .nilCheck x,ty,pos,aft,g⟩ E L (.pointer (some ad)):=fun A w hs _=>by
 simp[execOp,hs.ev hx]
theorem Still.extract{x:Operand}{i:Nat}{vs:Array Value}{v:Value}(hx:ev E x=some (.tuple vs))(hv:vs[i]?=some v):Still P N ⟨dst, .extract x i,ty,pos,aft,g⟩ E L v:=fun A w hs _=>by
 simp[execOp,hs.ev hx,Instr.extract,hv]
theorem Still.aAz{x:Operand}{u v:Value}(hx:ev E x=some (.tuple #[u,v])):Still P N ⟨dst, .extract x 0,ty,pos,aft,g⟩ E L u:=Still.extract hx rfl
theorem Still.aBA{x:Operand}{u v:Value}(hx:ev E x=some (.tuple #[u,v])):Still P N ⟨dst, .extract x 1,ty,pos,aft,g⟩ E L v:=Still.extract hx rfl
theorem Addr.sS(b i j:Nat):(⟨b,i,none⟩:Addr).add j=⟨b,i+j,none⟩:=by unfold Addr.add;split<;>simp_all
theorem U8{s ft:TypeId}{fs:List (Nat×TypeId)}{s' b' f off i:Nat}{z':List Value}{j:jK}{ad:Addr}(ht:aW P s=some ⟨.struct fs,s',b',z'⟩)(hf:fs[f]?=some (off,ft))(hj:aW P ft=some j)(hz:Nat.beq j.size 0=false)(w:World):
  (Instr.fieldAt s (.pointer (some ad)) f).run P w= .ok (.pointer (some (ad.add off))) w:=by
 obtain⟨l,h1,h2⟩:=(b7 ht).struct;rw[←h2,List.getElem?_map]at hf;have hsz:=(b7 hj).size;have hne:j.size≠0:=fun h=>by rw[h]at hz;simp at hz
 cases hlf:l[f]? with
 |none=>rw[Array.getElem?_toList,hlf]at hf;cases hf
 |some fl=>
  rw[Array.getElem?_toList,hlf]at hf;simp only[Option.map_some,Option.some.injEq,Prod.mk.injEq]at hf;obtain⟨rfl,rfl⟩:=hf;simp[Instr.fieldAt,run_underlying h1,hlf,Instr.sureAddr,fieldPlace,hsz,hne]
theorem Still.fieldAddr{x:Operand}{s ft:TypeId}{fs:List (Nat×TypeId)}{s' b' f off b i:Nat}{z':List Value}{j:jK}(hx:ev E x=some (.pointer (some ⟨b,i,none⟩)))(ht:aW P s=some ⟨.struct fs,s',b',z'⟩)
  (hf:fs[f]?=some (off,ft)) (hj:aW P ft=some j) (hz:Nat.beq j.size 0=false):Still P N ⟨dst, .fieldAddr s x f,ty,pos,aft,g⟩ E L (.pointer (some ⟨b,i+off,none⟩)):=fun A w hs _=>by
 simp[execOp,hs.ev hx,U8 (i:=0) ht hf hj hz,Addr.sS]
inductive Cut{α:Type}:List α→Nat→Nat→List α→Prop
 |done {cs:List α}:Cut cs 0 0 []
 |take {a:α} {r ds:List α} {n:Nat}:Cut r 0 n ds→Cut (a::r) 0 (n+1) (a::ds)
 |skip {a:α} {r ds:List α} {i n:Nat}:Cut r i n ds→Cut (a::r) (i+1) n ds
theorem Cut.get{α:Type}{cs ds:List α}{i n:Nat}(h:Cut cs i n ds):ds.length=n∧∀j v,ds[j]?=some v→cs[i+j]?=some v:=by
 induction h with
 |done=>simp
 |take _ ih=>
  refine⟨by simp[ih.1],fun j v hj=>?_⟩
  cases j with
  |zero=>simpa using hj
  |succ j=>have:=ih.2 j v (by simpa using hj);simpa[Nat.add_comm 0]using this
 | @skip a r ds i n _ ih=>exact⟨ih.1,fun j v hj=>by have:=ih.2 j v hj;rwa [show i+1+j=(i+j)+1 by omega,List.getElem?_cons_succ]⟩
theorem Still.load{x:Operand}{t bt:TypeId}{b i:Nat}{cs:List Value}{v:Value}{L':List Chunk}{ti:jK}(hx:ev E x=some (.pointer (some ⟨b,i,none⟩)))(ht:aW P t=some ti)(hd:ti.d.row=false)
  (hm:Take (aD b cs bt) L L') (hv:cs[i]?=some v):Still P N ⟨dst, .load t x,ty,pos,aft,g⟩ E L v:=fun A w hs hM=>by
 have hb:=jU.1 (hM.has hm);have hc:w.cell? ⟨b,i,none⟩=some v:=by rw[hb.cell];simpa using hv
 simp[execOp,hs.ev hx,Instr.loadAt,Instr.sureAddr,loadVar,(b7 ht).isAgg hd,load,hc]
theorem Still.aCP{x:Operand}{t bt:TypeId}{b i s' b':Nat}{fs:List (Nat×TypeId)}{z' cs ds:List Value}{L':List Chunk}(hx:ev E x=some (.pointer (some ⟨b,i,none⟩)))(ht:aW P t=some ⟨.struct fs,s',b',z'⟩)
  (hm:Take (aD b cs bt) L L') (hv:Cut cs i s' ds):Still P N ⟨dst, .load t x,ty,pos,aft,g⟩ E L (.agg ds.toArray):=fun A w hs hM=>by
 have hb:=jU.1 (hM.has hm);obtain⟨hl,hg⟩:=hv.get;obtain⟨l,h1, -⟩:=(b7 ht).struct;obtain⟨x',z,h3,h4, -⟩:=(b7 ht).info;have:=run_loadAt_mid (P:=P) w b i t ds _ (fun j v hj=>by rw[hb.cell];simpa using hg j v hj) h1 rfl (by rw[h3];simp[h4,hl]);simp[execOp,hs.ev hx,this]
theorem Still.len{x:Operand}{t e:TypeId}{s' b' n c:Nat}{z':List Value}{ao:Option Addr}(hx:ev E x=some (.slice ao n c))(ht:aW P t=some ⟨.slice e,s',b',z'⟩):
  Still P N ⟨dst, .call ⟨.builtin .len, #[x], #[t]⟩,ty,pos,aft,g⟩ E L (.int .i64 (n:Int)):=fun A w hs _=>by
 simp[execOp,resolve,invoke,builtin,hs.ev hx,Builtin.len_,run_underlying (b7 ht).slice,goInt]
end
@[irreducible] def place (m : Nat) (ao : Option Addr) (i off : Nat) : Option Addr := ao.map fun a => a.add (i * m + off)
theorem uX{m i off b o:Nat}:place m (some ⟨b,o,none⟩) i off=some ⟨b,o+(i*m+off),none⟩:=by unfold place;simp[Addr.sS]
section
variable{α:Type}{iα:Inhabited α}{ao:Option Addr}{n cap:Nat}{e:TypeId}{f:α→List Value}{ef:bF f}{l:List α}{L L':List Chunk}
def bU{α:Type} [Inhabited α](L:List Chunk)(ao:Option Addr)(n cap:Nat)(f:α→List Value) [bF f](l:List α):Prop:=∀w,Mem w L→Row w (.slice ao n cap) (sz f) n (l.flatMap f)∧l.length=n
theorem bU.arr(t:Take (arr ao n cap e f l) L L'):bU L ao n cap f l:=fun w hm=>⟨(fH.1 (hm.has t)).1.row bF.pos,(fH.1 (hm.has t)).2⟩
theorem bU.rd(t:Take (rd ao n cap f l) L L'):bU L ao n cap f l:=fun w hm=>kA.1 (hm.has t)
theorem sY{α:Type} [Inhabited α](f:α→List Value) [bF f](l:List α):(l.flatMap f).length=l.length*sz f:=by
 induction l with
 |nil=>simp
 |cons a r ih=>rw[List.flatMap_cons,List.length_append,ih,bF.len a,List.length_cons,Nat.add_mul];simp only[sz];omega
theorem IT{α:Type} [Inhabited α](f:α→List Value) [bF f]:∀(l:List α) (i:Nat),i<l.length→∀j,j<sz f→(l.flatMap f)[i*sz f+j]?=(f (l.getD i default))[j]?
 |[],i,h,_,_=>by simp at h
 |a::r,0,_,j,hj=>by
  rw[List.flatMap_cons,Nat.zero_mul,Nat.zero_add,List.getElem?_append_left (by rw[bF.len a];exact hj)];rfl
 |a::r,i+1,h,j,hj=>by
  rw[List.flatMap_cons,List.getElem?_append_right (by rw[bF.len a,Nat.add_mul];simp only[sz];omega),bF.len a,show(i+1)*sz f+j-(f default).length=i*sz f+j by rw[Nat.add_mul];simp only[sz];omega];exact IT f r i (by simpa using h) j hj
theorem aF1{α:Type} [Inhabited α](f:α→List Value) [bF f](cur:List Value)(l:List α)(i o off n:Nat)(vs:List Value)(a':α)(hn:l.length=n)(hi:i<n)(hc:o+n*sz f≤cur.length)
  (hd:(cur.drop o).take (n*sz f)=l.flatMap f) (hle:off+vs.length≤(f (l.getD i default)).length) (he:f a'=(f (l.getD i default)).take off ++vs ++(f (l.getD i default)).drop (off+vs.length)):
  ((cur.take (o+(i*sz f+off)) ++vs ++cur.drop (o+(i*sz f+off)+vs.length)).drop o).take (n*sz f)=(l.set i a').flatMap f:=by
 have hx:l=l.take i ++(l.getD i default)::l.drop (i+1):=by
  have h1:l.getD i default=l[i]'(by omega):=by simp[List.getD_eq_getElem?_getD,List.getElem?_eq_getElem (show i<l.length by omega)]
  rw[h1,List.getElem_cons_drop,List.take_append_drop]
 generalize l.getD i default=x at *;have hlx:(f x).length=sz f:=bF.len x;have hA:((l.take i).flatMap f).length=i*sz f:=by rw[sY,List.length_take,Nat.min_eq_left (by omega)]
 have hS:(l.set i a').flatMap f=(l.take i).flatMap f ++(f a' ++(l.drop (i+1)).flatMap f):=by
  conv=>lhs;rw[hx]
  rw[List.set_append_right _ _ (by simp;omega)];simp[Nat.min_eq_left (show i≤l.length by omega)]
 have hF:l.flatMap f=(l.take i).flatMap f ++(f x ++(l.drop (i+1)).flatMap f):=by
  conv=>lhs;rw[hx]
  simp
 have hB:((l.drop (i+1)).flatMap f).length=(n-(i+1))*sz f:=by rw[sY,List.length_drop,hn]
 have hcur:cur=cur.take o ++(l.flatMap f ++cur.drop (o+n*sz f)):=by
  rw[←hd,←List.drop_drop,List.take_append_drop,List.take_append_drop]
 have hmul:n*sz f=i*sz f+(sz f+(n-(i+1))*sz f):=by
  have:n=i+(1+(n-(i+1))):=by omega
  conv=>lhs;rw[this]
  rw[Nat.add_mul,Nat.add_mul,Nat.one_mul]
 have hC0:(cur.take o).length=o:=by rw[List.length_take,Nat.min_eq_left (by omega)]
 rw[hF]at hcur;rw[hS,he];generalize(l.take i).flatMap f=A at *;generalize(l.drop (i+1)).flatMap f=B at *;generalize cur.drop (o+n*sz f)=C1 at *;generalize cur.take o=C0 at *;have e1:cur.take (o+(i*sz f+off))=C0 ++(A ++(f x).take off):=by
  rw[hcur,List.take_append,List.take_of_length_le (by omega),hC0,Nat.add_sub_cancel_left,List.append_assoc,List.append_assoc,List.take_append,List.take_of_length_le (by omega),hA,Nat.add_sub_cancel_left,List.take_append_of_le_length (by omega)]
 have e2:cur.drop (o+(i*sz f+off)+vs.length)=(f x).drop (off+vs.length) ++(B ++C1):=by
  rw[hcur,show o+(i*sz f+off)+vs.length=o+(i*sz f+(off+vs.length)) by omega,List.drop_append,List.drop_of_length_le (by omega),hC0,Nat.add_sub_cancel_left,List.nil_append,List.append_assoc,List.append_assoc,List.drop_append,List.drop_of_length_le (by omega),hA,Nat.add_sub_cancel_left,List.nil_append,List.drop_append_of_le_length (by omega)]
 rw[e1,e2];have e3:C0 ++(A ++(f x).take off) ++vs ++((f x).drop (off+vs.length) ++(B ++C1))=C0 ++((A ++((f x).take off ++vs ++(f x).drop (off+vs.length) ++B)) ++C1):=by simp
 rw[e3,List.drop_left' hC0,List.take_left'];simp only[List.length_append,List.length_take,List.length_drop,hA,hB,hlx,hmul];rw[Nat.min_eq_left (by omega)];omega
theorem bU.cell(h:bU L ao n cap f l){w:World}(hm:Mem w L){i:Nat}(hi:i<n):∃b o,ao=some ⟨b,o,none⟩∧∀off v,(f (l.getD i default))[off]?=some v→w.cell? ⟨b,o+(i*sz f+off),none⟩=some v:=by
 obtain⟨⟨h1,h2,ao',cap',he,h3,h4⟩,h5⟩:=h w hm;simp only[Value.slice.injEq]at he;obtain⟨rfl, -,rfl⟩:=he;obtain⟨b,o,rfl,hc⟩:=h4 (by omega);refine⟨b,o,rfl,fun off v hv=>?_⟩;have hoff:off<sz f:=by
  have:=(List.getElem?_eq_some_iff.1 hv).1;rwa [bF.len]at this
 have hlt:i*sz f+off<n*sz f:=by
  have:(i+1)*sz f≤n*sz f:=Nat.mul_le_mul_right _ (by omega);rw[Nat.add_mul]at this;omega
 rw[hc _ hlt,IT f l i (by omega) off hoff];exact hv
end
section
variable{P:Program} [eP P]{Q:Exit→Act→World→Prop}{N:Nd}{E:Env}{L L':List Chunk}
variable{dst:Option Tmp}{ty:TypeId}{pos:String}{aft:Array Edge}{g:Option (Nat×Bool)}
variable{α:Type}{iα:Inhabited α}{ao:Option Addr}{n cap:Nat}{e:TypeId}{f:α→List Value}{ef:bF f}{l:List α}
theorem Still.at_{t:TypeId}{x ix:Operand}{k:IntKind}{j:Int}{i s' b' s2 b2:Nat}{z' z2:List Value}{d2:cV}(hx:ev E x=some (.slice ao n cap))(hi:ev E ix=some (.int k j))(hr:bU L ao n cap f l)
  (ht:aW P t=some ⟨.slice e,s',b',z'⟩) (he:aW P e=some ⟨d2,s2,b2,z2⟩) (hs:s2=sz f) (hj:j=(i:Int)) (hlt:i<n):
  Still P N ⟨dst, .indexAddr t x ix,ty,pos,aft,g⟩ E L (.pointer (place (sz f) ao i 0)):=fun A w hS hM=>by
 obtain⟨b,o,rfl, -⟩:=hr.cell hM hlt;subst hj;have h0:(0:Int)≤(i:Int)∧(i:Int)<(n:Int):=by omega
 have hz:(sizeOf e).run P w= .ok s2 w:=(b7 he).size w;subst hs;simp[execOp,hS.ev hx,hS.ev hi,Instr.indexAt,asIntOf,run_underlying (b7 ht).slice,h0,hz,uX,Addr.sS,hlt]
theorem Still.aBJ{x:Operand}{s ft:TypeId}{fs:List (Nat×TypeId)}{s' b' fi off o2 i:Nat}{z':List Value}{j:jK}(hx:ev E x=some (.pointer (place (sz f) ao i off)))(hr:bU L ao n cap f l)(hlt:i<n)(ht:aW P s=some ⟨.struct fs,s',b',z'⟩)
  (hf:fs[fi]?=some (o2,ft)) (hj:aW P ft=some j) (hz:Nat.beq j.size 0=false):Still P N ⟨dst, .fieldAddr s x fi,ty,pos,aft,g⟩ E L (.pointer (place (sz f) ao i (off+o2))):=fun A w hS hM=>by
 obtain⟨b,o,rfl, -⟩:=hr.cell hM hlt;have hx':=hS.ev hx;rw[uX]at hx';simp[execOp,hx',U8 (i:=0) ht hf hj hz,Addr.sS,uX,Nat.add_assoc]
theorem Still.aDX{x:Operand}{off i:Nat}(hx:ev E x=some (.pointer (place (sz f) ao i off)))(hr:bU L ao n cap f l)(hlt:i<n):Still P N ⟨dst, .nilCheck x,ty,pos,aft,g⟩ E L (.pointer (place (sz f) ao i off)):=fun A w hS hM=>by
 obtain⟨b,o,rfl, -⟩:=hr.cell hM hlt;have hx':=hS.ev hx;rw[uX]at hx'⊢;simp[execOp,hx']
theorem Still.aCM{x:Operand}{t:TypeId}{i off:Nat}{v:Value}{ti:jK}(hx:ev E x=some (.pointer (place (sz f) ao i off)))(ht:aW P t=some ti)(hd:ti.d.row=false)
  (hr:bU L ao n cap f l) (hlt:i<n) (hv:(f (l.getD i default))[off]?=some v):Still P N ⟨dst, .load t x,ty,pos,aft,g⟩ E L v:=fun A w hS hM=>by
 obtain⟨b,o,rfl,hc⟩:=hr.cell hM hlt;have hx':=hS.ev hx;rw[uX]at hx';simp[execOp,hx',Instr.loadAt,Instr.sureAddr,loadVar,(b7 ht).isAgg hd,load,hc off v hv]
theorem Still.aCN{x:Operand}{t:TypeId}{i off s' b':Nat}{fs:List (Nat×TypeId)}{z' ds:List Value}(hx:ev E x=some (.pointer (place (sz f) ao i off)))(ht:aW P t=some ⟨.struct fs,s',b',z'⟩)
  (hr:bU L ao n cap f l) (hlt:i<n) (hv:Cut (f (l.getD i default)) off s' ds):Still P N ⟨dst, .load t x,ty,pos,aft,g⟩ E L (.agg ds.toArray):=fun A w hS hM=>by
 obtain⟨b,o,rfl,hc⟩:=hr.cell hM hlt;have hx':=hS.ev hx;rw[uX]at hx';obtain⟨hl,hg⟩:=hv.get;obtain⟨q,h1, -⟩:=(b7 ht).struct;obtain⟨x',z,h3,h4, -⟩:=(b7 ht).info;have:=run_loadAt_mid (P:=P) w b (o+(i*sz f+off)) t ds _ (fun j v hj=>by rw[Nat.add_assoc,Nat.add_assoc];exact hc _ v (hg j v hj)) h1 rfl (by rw[h3];simp[h4,hl]);simp[execOp,hx',this]
theorem aA.alloc{t:TypeId}{d0:cV}{s0 b0:Nat}{z0:List Value}{C:Env→List Chunk→Prop}(ht:aW P t=some ⟨d0,s0,b0,z0⟩)(hd:cF N dst=true)(k:∀b,C (cD dst (.pointer (some ⟨b,0,none⟩)) E) (aD b z0 t::L)):
  aA P Q N ⟨dst, .alloc t,ty,pos,aft,g⟩ E L C:=fun K hK A w hS hM=>by
 obtain⟨x,z,h1,h2,h3,h4,h5⟩:=(b7 ht).info;have hr:(execOp A.eval ⟨dst, .alloc t,ty,pos,aft,g⟩).run P w= .ok (.value (.pointer (some ⟨w.heap.size,0,none⟩))) (w.alloc (.cells z.cells t)):=by
  simp[execOp,Instr.alloc,zeroValue,typeInfo,h1,h4,newVar,newRow,newObj];rfl
 unfold Oper.wp;rw[hr];refine hK _ _ (k w.heap.size) _ _ (hS.put _ hd) (hM.add ((bV.refl _ _).alloc _) (jU.2 ?_) (fun b hb=>by rw[rM.1 hb];exact Nat.le_refl _));rw[←(show z.cells.toList=z0 from h5)];simpa using eE.new w z.cells t
theorem aA.box{t:TypeId}{x:Operand}{v:Value}{cs:List Value}{C:Env→List Chunk→Prop}(hx:ev E x=some v)(hc:v.cells=cs.toArray)(hd:cF N dst=true)(k:∀b,C (cD dst (.pointer (some ⟨b,0,none⟩)) E) (aD b cs t::L)):
  aA P Q N ⟨dst, .box t x,ty,pos,aft,g⟩ E L C:=fun K hK A w hS hM=>by
 have hr:(execOp A.eval ⟨dst, .box t x,ty,pos,aft,g⟩).run P w= .ok (.value (.pointer (some ⟨w.heap.size,0,none⟩))) (w.alloc (.cells cs.toArray t)):=by
  simp[execOp,hS.ev hx,Instr.box,hc,newVar,newRow,newObj];rfl
 unfold Oper.wp;rw[hr];exact hK _ _ (k w.heap.size) _ _ (hS.put _ hd) (hM.add ((bV.refl _ _).alloc _) (jU.2 (eE.new w cs.toArray t)) (fun b hb=>by rw[rM.1 hb];exact Nat.le_refl _))
inductive Put:List Value→Nat→List Value→List Value→Prop
 |done {cs:List Value}:Put cs 0 [] cs
 |take {u v:Value} {r vs r':List Value}:Put r 0 vs r'→Put (u::r) 0 (v::vs) (v::r')
 |skip {u:Value} {r vs r':List Value} {i:Nat}:Put r i vs r'→Put (u::r) (i+1) vs (u::r')
theorem Put.eq{cs vs cs':List Value}{i:Nat}(h:Put cs i vs cs'):i+vs.length≤cs.length∧cs'=cs.take i ++vs ++cs.drop (i+vs.length):=by
 induction h with
 |done=>simp
 |take _ ih=>
  obtain⟨h1,h2⟩:=ih;refine⟨by simp at h1⊢;omega,?_⟩;simp at h2;simp[h2]
 |skip _ ih=>
  obtain⟨h1,h2⟩:=ih;refine⟨by simp at h1⊢;omega,?_⟩;rw[h2];simp[Nat.add_right_comm _ 1]
theorem aA.store{t bt:TypeId}{x y:Operand}{v:Value}{b i:Nat}{cs vs cs':List Value}{ti:jK}{C:Env→List Chunk→Prop}(hx:ev E x=some (.pointer (some ⟨b,i,none⟩)))(hy:ev E y=some v)(hv:v.cells=vs.toArray)
  (ht:aW P t=some ti) (hl:vs.length=ti.size) (h1:vs.all (·.oneCell')=true) (hm:Take (aD b cs bt) L L') (hp:Put cs i vs cs') (hd:cF N dst=true) (k:C (cD dst undef E) (aD b cs' bt::L')):
  aA P Q N ⟨dst, .store t x y,ty,pos,aft,g⟩ E L C:=fun K hK A w hS hM=>by
 have hM':=hM.take hm;have hb:=jU.1 (hM.has hm);obtain⟨hle,he⟩:=hp.eq;obtain⟨x',z,h3,h4, -⟩:=(b7 ht).info;have hst:=run_storeVar_mid (P:=P) w b i t vs.toArray (fun j hj=>by
  simp only[List.size_toArray]at hj;exact⟨by rw[hb.cell];simp;omega,hb.free _⟩) (by rw[h3];simp[h4,hl]) (by simpa using h1)
 have hr:(execOp A.eval ⟨dst, .store t x y,ty,pos,aft,g⟩).run P w= .ok .skip (w.setCells b i vs):=by
  have e:storeVar t ⟨b,i,none⟩ v=storeVar t ⟨b,i,none⟩ (.agg vs.toArray):=by
   unfold storeVar;rw[hv];rfl
  simp only[execOp,hS.ev hx,hS.ev hy,Instr.storeAt,Instr.sureAddr,Sem.run_bind,Sem.run_pure,Result.andThen_ok];rw[e,hst];rfl
 unfold Oper.wp;rw[hr];refine hK _ _ k _ _ (hS.put _ hd) (hM'.sA (bV.setCells (S:=fun c=>c=b) vs i (bV.refl _ _) (fun _=>rfl)) kG (fun c hc _=>rM.2 hc) (jU.2 ?_) (fun c hc=> .inl (rM.2 (rM.1 hc))));rw[he];simpa using hb.setCells vs i (by simpa using hle)
theorem aA.aG4{t:TypeId}{x y:Operand}{v:Value}{i off:Nat}{vs:List Value}{ti:jK}{a':α}{C:Env→List Chunk→Prop}(hx:ev E x=some (.pointer (place (sz f) ao i off)))(hy:ev E y=some v)(hv:v.cells=vs.toArray)
  (ht:aW P t=some ti) (hl:vs.length=ti.size) (h1:vs.all (·.oneCell')=true) (hm:Take (arr ao n cap e f l) L L') (hlt:i<n) (hp:Put (f (l.getD i default)) off vs (f a')) (hd:cF N dst=true)
  (k:C (cD dst undef E) (arr ao n cap e f (l.set i a')::L')):aA P Q N ⟨dst, .store t x y,ty,pos,aft,g⟩ E L C:=fun K hK A w hS hM=>by
 have hM':=hM.take hm;obtain⟨hown0,hln⟩:=fH.1 (hM.has hm);have hcap0:0<cap:=Nat.lt_of_lt_of_le (Nat.lt_of_le_of_lt (Nat.zero_le _) hlt) hown0.le;have hown:=hown0.own hcap0;obtain⟨hle,he⟩:=hp.eq;obtain⟨x',z,h3,h4, -⟩:=(b7 ht).info;obtain⟨b,o,rfl, -⟩:=(bU.arr hm).cell hM hlt;obtain⟨q1,ao',cap',q2,q3,q4,q5,q6⟩:=id hown;simp only[Value.slice.injEq]at q2;obtain⟨rfl, -,rfl⟩:=q2;obtain⟨-,q7,cur,q8,q9,q10⟩:=q6 _ rfl;simp only at q7 q8 q9 q10;rw[bF.len]at hle;have hmul:(i+1)*sz f≤cap*sz f:=Nat.mul_le_mul_right _ (by omega);have hmul2:(i+1)*sz f≤n*sz f:=Nat.mul_le_mul_right _ (by omega);rw[Nat.add_mul,Nat.one_mul]at hmul hmul2;simp only[sz]at hmul hmul2 q9 q10 hle;have hst:=run_storeVar_mid (P:=P) w b (o+(i*sz f+off)) t vs.toArray (fun j hj=>by
  simp only[List.size_toArray]at hj;exact⟨by rw[q8.cell];simp only[sz];simp;omega,q8.free _⟩) (by rw[h3];simp[h4,hl]) (by simpa using h1)
 have hx':=hS.ev hx;rw[uX]at hx';have hr:(execOp A.eval ⟨dst, .store t x y,ty,pos,aft,g⟩).run P w= .ok .skip (w.setCells b (o+(i*sz f+off)) vs):=by
  have e:storeVar t ⟨b,o+(i*sz f+off),none⟩ v=storeVar t ⟨b,o+(i*sz f+off),none⟩ (.agg vs.toArray):=by
   unfold storeVar;rw[hv];rfl
  simp only[execOp,hx',hS.ev hy,Instr.storeAt,Instr.sureAddr,Sem.run_bind,Sem.run_pure,Result.andThen_ok];rw[e,hst];rfl
 unfold Oper.wp;rw[hr];have hb2:=q8.setCells vs (o+(i*sz f+off)) (by simp only[sz];omega);refine hK _ _ k _ _ (hS.put _ hd) (hM'.sA (bV.setCells (S:=fun c=>c=b) vs _ (bV.refl _ _) (fun _=>rfl)) dX (fun c hc _=>fS.2 ⟨by rw[hc];rfl,hcap0⟩) (fH.2 ⟨jC.of ?_,by simpa using hln⟩) (fun c hc=> .inl (fS.2 (fS.1 hc))));refine⟨by rw[sY];simp[hln],_,cap,rfl,q3,q4,(fun h=>by cases h),fun ad fU=>?_⟩
 cases fU
 refine⟨rfl,Nat.zero_le _,_,hb2,?_,?_⟩
 ·simp only[List.size_toArray,List.length_append,List.length_take,List.length_drop,Array.length_toList,sz];omega
 ·have:=aF1 f cur.toList l i o off n vs a' hln hlt (by simp only[sz]at *;simp;have:n*(f default).length≤cap*(f default).length:=Nat.mul_le_mul_right _ (by omega);omega) (by simp only[sz];exact q10) (by rw[bF.len];exact hle) he;simpa[sz]using this
end
theorem QV(off:Nat):∀(vs:List Value) (k:Nat) (cs:Array Value),off+k+vs.length≤cs.size→
  ((vs.zipIdx k).foldl (fun cs (x:Value×Nat)=>cs.setIfInBounds (off+x.2) x.1) cs).toList=cs.toList.take (off+k) ++vs ++cs.toList.drop (off+k+vs.length)
 |[],k,cs,h=>by simp
 |v::vs,k,cs,h=>by
  simp only[List.length_cons]at h;rw[List.zipIdx_cons,List.foldl_cons,QV off vs (k+1) _ (by simp;omega)];have ho:off+k<cs.toList.length:=by simp;omega
  simp only[Array.toList_setIfInBounds,List.length_cons];rw[List.take_set,List.drop_set_of_lt (by omega),show off+(k+1)=off+k+1 by omega,List.take_succ_eq_append_getElem ho,List.set_append_right _ _ (by simp;omega)];simp only[List.length_take,Nat.min_eq_left (Nat.le_of_lt ho),Nat.sub_self,List.set_cons_zero,List.append_assoc,List.cons_append,List.nil_append];rw[show off+k+1+vs.length=off+k+(vs.length+1) by omega]
inductive mR(E:Env)(pl:Nat→Option (Nat×Nat)):List Value→List (Nat×Operand)→List Value→Prop
 |nil {cs:List Value}:mR E pl cs [] cs
 |cons {cs cs1 cs2 vs:List Value} {i off size:Nat} {x:Operand} {v:Value} {r:List (Nat×Operand)}:pl i=some (off,size)→ev E x=some v→v.cells=vs.toArray→vs.length=size→Put cs off vs cs1→mR E pl cs1 r cs2→mR E pl cs ((i,x)::r) cs2
theorem mR.run{E:Env}{N:Nd}{A:Act}(hS:Sat N A E){pl:Nat→Option (Nat×Nat)}{cs cs':List Value}{parts:List (Nat×Operand)}(h:mR E pl cs parts cs'):
  Instr.fill pl cs.toArray (parts.map fun p=>(p.1,A.eval p.2))=some cs'.toArray:=by
 induction h with
 |nil=>rfl
 | @cons cs cs1 cs2 vs i off size x v r h1 h2 h3 h4 h5 _ ih=>
  obtain⟨hle,he⟩:=h5.eq;have e:(v.cells.zipIdx.foldl (fun cs (x:Value×Nat)=>cs.setIfInBounds (off+x.2) x.1) cs.toArray)=cs1.toArray:=by
   apply Array.ext';have:=QV off vs 0 cs.toArray (by simpa using hle);rw[h3,←Array.foldl_toList,Array.toList_zipIdx];simp only[Nat.add_zero]at this;rw[this,he]
  simp only[List.map_cons,Instr.fill,h1,hS.ev h2];rw[if_neg (by rw[h3];simp[h4];omega)];refine Eq.trans ?_ ih;congr 1
inductive App:List Value→List Value→List Value→Prop
 |nil {r:List Value}:App [] r r
 |cons {x:Value} {a r r':List Value}:App a r r'→App (x::a) r (x::r')
theorem App.eq{a b c:List Value}(h:App a b c):c=a ++b:=by induction h with|nil=>rfl|cons _ ih=>rw[ih];rfl
inductive sO(z:List Value):Nat→List Value→Prop
 |zero:sO z 0 []
 |succ {n:Nat} {r r':List Value}:sO z n r→App z r r'→sO z (n+1) r'
theorem sO.eq{z r:List Value}{n:Nat}(h:sO z n r):r=(List.replicate n z).flatten:=by
 induction h with
 |zero=>rfl
 |succ _ h2 ih=>rw[h2.eq,ih,List.replicate_succ,List.flatten_cons]
theorem UQ(z:Array Value)(hz:0<z.size):∀n,(Array.range (n*z.size)).map (z[· % z.size]!)=(List.replicate n z.toList).flatten.toArray:=by
 intro n;have hlen:∀m,(List.replicate m z.toList).flatten.length=m*z.size:=by
  intro m
  induction m with
  |zero=>simp
  |succ m ih=>rw[List.replicate_succ,List.flatten_cons,List.length_append,ih,Nat.add_mul];simp;omega
 have hget:∀m j,j<m*z.size→(List.replicate m z.toList).flatten[j]?=z[j % z.size]?:=by
  intro m
  induction m with
  |zero=>intro j hj;simp at hj
  |succ m ih=>
   intro j hj;rw[List.replicate_succ,List.flatten_cons]
   by_cases h:j<z.size
   ·rw[List.getElem?_append_left (by simpa using h),Nat.mod_eq_of_lt h];simp
   ·rw[List.getElem?_append_right (by simp;omega)];rw[Nat.add_mul]at hj;have:=ih (j-z.size) (by omega);rw[Nat.mod_eq_sub_mod (by omega)];simpa using this
 apply Array.ext
 ·simp[hlen n]
 ·intro i h1 h2;simp only[Array.size_map,Array.size_range]at h1;have h3:=hget n i h1;have hm:i % z.size<z.size:=Nat.mod_lt _ hz;rw[Array.getElem?_eq_getElem hm]at h3;simp only[Array.getElem_map,Array.getElem_range,List.getElem_toArray];rw[getElem!_pos z _ hm];rw[List.getElem?_eq_getElem (by simpa using h2)]at h3;exact(Option.some.inj h3).symm
section
variable{P:Program} [eP P]{Q:Exit→Act→World→Prop}{N:Nd}{E:Env}{L L':List Chunk}
variable{dst:Option Tmp}{ty:TypeId}{pos:String}{aft:Array Edge}{g:Option (Nat×Bool)}
def CA(P:Program) [eP P](fs:List (Nat×TypeId))(i:Nat):Option (Nat×Nat):=match fs[i]? with
 |some p=>match aW P p.2 with
  |some j=>some (p.1,j.size)
  |none=>none
 |none=>none
theorem mR.mono{pl pl':Nat→Option (Nat×Nat)}{cs cs':List Value}{parts:List (Nat×Operand)}(h:mR E pl cs parts cs')(hp:∀i x,pl i=some x→pl' i=some x):mR E pl' cs parts cs':=by
 induction h with
 |nil=>exact .nil
 |cons h1 h2 h3 h4 h5 _ ih=>exact .cons (hp _ _ h1) h2 h3 h4 h5 ih
theorem Still.build{t:TypeId}{fs:List (Nat×TypeId)}{s' b':Nat}{z' cs:List Value}{parts:List (Nat×Operand)}(ht:aW P t=some ⟨.struct fs,s',b',z'⟩)(hall:fs.all (fun p=>(aW P p.2).isSome)=true)(hf:mR E (CA P fs) z' parts cs):
  Still P N ⟨dst, .build t parts.toArray,ty,pos,aft,g⟩ E L (.agg cs.toArray):=fun A w hS hM=>by
 obtain⟨x,z,h1,h2,h3,h4,h5⟩:=(b7 ht).info;obtain⟨l,h6,h7⟩:=(b7 ht).struct;have hpl:∃places,l.toList.mapM (fun f=>(P.info? f.type).map fun i=>(f.offset,i.size))=some places∧∀i y,CA P fs i=some y→places.toArray[i]?=some y:=by
  subst h7;have key:∀(m:List Field),(m.map (fun f=>(f.offset,f.type))).all (fun p=>(aW P p.2).isSome)=true→∃places,m.mapM (fun f=>(P.info? f.type).map fun i=>(f.offset,i.size))=some places∧∀i y,CA P (m.map fun f=>(f.offset,f.type)) i=some y→places[i]?=some y:=by
   intro m
   induction m with
   |nil=>intro _;exact⟨[],rfl,fun i y h=>by simp[CA]at h⟩
   |cons f r ih=>
    intro ha;simp only[List.map_cons,List.all_cons,Bool.and_eq_true]at ha;obtain⟨pr,hp1,hp2⟩:=ih ha.2;obtain⟨j,hj⟩:=Option.isSome_iff_exists.1 ha.1;obtain⟨x',z',k1,k2, -⟩:=(b7 hj).info;refine⟨(f.offset,x'.size)::pr,by simp[List.mapM_cons,k1,hp1],fun i y hy=>?_⟩
    cases i with
    |zero=>
     simp only[CA,List.map_cons,List.getElem?_cons_zero,hj,Option.some.injEq]at hy;rw[←hy,k2];rfl
    |succ i=>exact hp2 i y hy
  obtain⟨pr,hp1,hp2⟩:=key l.toList hall;exact⟨pr,hp1,fun i y hy=>by simpa using hp2 i y hy⟩
 obtain⟨places,hp1,hp2⟩:=hpl;have hfill:=(hf.mono (pl':=(places.toArray[·]?)) hp2).run hS;have hb:P.built t (parts.toArray.map fun p=>(p.1,A.eval p.2)).toList=some cs.toArray:=by
  unfold Program.built;simp only[h1,h6,h4,hp1];rw[show z.cells=z'.toArray from by rw[←(show z.cells.toList=z' from h5)]];simpa using hfill
 have:=run_build (P:=P) w t _ _ hb;simp only[execOp,Sem.run_bind]
 erw [this]
 rfl
theorem aEv(w:World)(t e:TypeId){i:jK}(hu:P.underlying t=some (.slice e))(he:iI P e i):(Instr.buildSlice t 0 #[]).run P w= .ok (.slice (some ⟨w.heap.size,0,none⟩) 0 0) (w.alloc (.cells #[] e)):=by
 obtain⟨x,z,h1,h2, -⟩:=he.info;simp[Instr.buildSlice,run_underlying hu,sizeOf,typeInfo,h1,Instr.fill,newRow,Array.range_zero']
theorem aA.buildSlice{t e:TypeId}{len s' b' s2 b2:Nat}{d2:cV}{z' z2 zs cs:List Value}{parts:List (Nat×Operand)}{C:Env→List Chunk→Prop}(ht:aW P t=some ⟨.slice e,s',b',z'⟩)(he:aW P e=some ⟨d2,s2,b2,z2⟩)
  (hz:z2.length=s2) (hsm:Nat.ble (len*s2) 16777216=true) (hpos:Nat.blt 0 (len*s2)=true) (hr:sO z2 len zs) (hf:mR E (fun i=>some (i*s2,s2)) zs parts cs) (hd:cF N dst=true)
  (k:∀b,C (cD dst (.slice (some ⟨b,0,none⟩) len len) E) (aD b cs e::L)):aA P Q N ⟨dst, .buildSlice t len parts.toArray,ty,pos,aft,g⟩ E L C:=fun K hK A w hS hM=>by
 obtain⟨x,z,h1,h2,h3,h4,h5⟩:=(b7 he).info;have hpos':0<len*s2:=Nat.le_of_ble_eq_true hpos;have hs2:0<s2:=by
  rcases Nat.eq_zero_or_pos s2 with h|h
  ·subst h;simp at hpos'
  ·exact h
 simp only at h2 h5;have hzs:z.cells.size=s2:=by rw[←hz,←h5];simp
 have hfill:=hf.run hS;have hrun:=run_buildSlice (P:=P) w t e len (parts.toArray.map fun p=>(p.1,A.eval p.2)) cs.toArray x z (b7 ht).slice h1 h4 (by rw[h2];have:=Nat.le_of_ble_eq_true hsm;omega) (by rw[h2];omega) (by
  rw[h2];have:=UQ z.cells (by omega) len;rw[hzs]at this;rw[hzs,this,h5,←hr.eq];simpa using hfill)
 have hr':(execOp A.eval ⟨dst, .buildSlice t len parts.toArray,ty,pos,aft,g⟩).run P w= .ok (.value (.slice (some ⟨w.heap.size,0,none⟩) len len)) (w.alloc (.cells cs.toArray e)):=by
  simp only[execOp,Sem.run_bind]
  erw [hrun]
  rfl
 unfold Oper.wp;rw[hr'];exact hK _ _ (k w.heap.size) _ _ (hS.put _ hd) (hM.add ((bV.refl _ _).alloc _) (jU.2 (eE.new w cs.toArray e)) (fun b hb=>by rw[rM.1 hb];exact Nat.le_refl _))
theorem aA.ZJ{t e:TypeId}{s' b' s2 b2:Nat}{d2:cV}{z' z2:List Value}{C:Env→List Chunk→Prop}(ht:aW P t=some ⟨.slice e,s',b',z'⟩)(he:aW P e=some ⟨d2,s2,b2,z2⟩)(hd:cF N dst=true)
  (k:∀b,C (cD dst (.slice (some ⟨b,0,none⟩) 0 0) E) (aD b [] e::L)):aA P Q N ⟨dst, .buildSlice t 0 #[],ty,pos,aft,g⟩ E L C:=fun K hK A w hS hM=>by
 have hr':(execOp A.eval ⟨dst, .buildSlice t 0 #[],ty,pos,aft,g⟩).run P w= .ok (.value (.slice (some ⟨w.heap.size,0,none⟩) 0 0)) (w.alloc (.cells #[] e)):=by
  simp only[execOp,Sem.run_bind];rw[show(Array.map (fun(x:Nat×Operand)=>(x.fst,A.eval x.snd)) #[])= #[] by simp,aEv w t e (b7 ht).slice (b7 he)];rfl
 unfold Oper.wp;rw[hr'];exact hK _ _ (k w.heap.size) _ _ (hS.put _ hd) (hM.add ((bV.refl _ _).alloc _) (jU.2 (eE.new w #[] e)) (fun b hb=>by rw[rM.1 hb];exact Nat.le_refl _))
section
variable{α:Type}{iα:Inhabited α}{ao:Option Addr}{n cap:Nat}{e:TypeId}{f:α→List Value}{ef:bF f}{l:List α}
theorem TB{α:Type} [Inhabited α](f:α→List Value) [bF f](l:List α):∀u∈l.flatMap f,u.oneCell'=true:=fun u hu=>by
 obtain⟨a, -,ha⟩:=List.mem_flatMap.1 hu;exact bF.one a u ha
theorem V8{s2 b2:Nat}{d2:cV}{z2:List Value}(he:aW P e=some ⟨d2,s2,b2,z2⟩)(hz:z2.length=s2):∃z:Value,(P.info? e).map (fun i=>(i.zero,i.size,i.bytes))=some (some z,s2,b2)∧z.cells.size=s2:=by
 obtain⟨x,z,h1,h2,h3,h4,h5⟩:=(b7 he).info;refine⟨z,by rw[h1];simp[h2,h3,h4],?_⟩;rw[←hz,←(show z.cells.toList=z2 from h5)];simp
theorem Mem.mJ{w:World}{b:Nat}{cs:List Value}(h:Mem w L)(t:Take (aD b cs e) L L')(l:List α)(hc:cs=l.flatMap f)(hn:l.length=n)(hx:n≤maxLen):Mem w (arr (some ⟨b,0,none⟩) n n e f l::L'):=by
 have hb:=jU.1 (h.has t);refine(h.take t).sA (S:=Nil) (bV.refl _ _) kG (fun _ h _=>h.elim) (fH.2 ⟨jC.of ?_,hn⟩) (fun c hc=> .inl (rM.2 (by have:=(fS.1 hc).1;simp[Value.ownBlock]at this;exact this.symm)));have hl:=sY f l;refine⟨by rw[hl,hn],_,n,rfl,Nat.le_refl _,hx,(fun h=>by cases h),fun ad fU=>?_⟩
 cases fU
 refine⟨rfl,Nat.zero_le _,cs.toArray,hb,?_,?_⟩
 ·simp only[List.size_toArray,hc,hl,hn];omega
 ·rw[hc];simp only[List.drop_zero];exact List.take_of_length_le (by rw[hl,hn];exact Nat.le_refl _)
theorem Mem.bY{α:Type} [Inhabited α]{w:World}(h:Mem w L)(e:TypeId)(f:α→List Value) [bF f]:Mem w (arr none 0 0 e f []::L):=
 h.add (bV.refl _ _) (fH.2 ⟨.inl ⟨rfl,rfl,rfl⟩,rfl⟩) (fun b hb=>by have:=(fS.1 hb).2;omega)
theorem aEu{P:Program}{w:World}(t ty e:TypeId)(size bytes:Nat)(z:Value)(ht:P.underlying t=some (.slice e))(hi:(P.info? e).map (fun i=>(i.zero,i.size,i.bytes))=some (some z,size,bytes))
  (ao:Option Addr) (xo:Option Addr) (m c:Nat) (hm:0<m) (h63:m≤9223372036854775807) (hbytes:m*bytes≤140737488355328):
  (Builtin.append_ #[t,t] ty #[.slice ao 0 0, .slice xo m c]).run P w=(Builtin.append_ #[t,t] ty #[.slice none 0 0, .slice xo m c]).run P w:=by
 cases ao with
 |none=>rfl
 |some a=>
  obtain⟨i,hi0,hi1,hi2,hi3⟩:=info_parts hi;have h1:¬(m≤0):=by omega
  have h2:Builtin.nextslicecap m 0=m:=by simp[Builtin.nextslicecap];omega
  have h0:¬m=0:=by omega
  have h4:¬((9223372036854775807:Int)<(m:Int)∧i.bytes=0):=by omega
  have h5:¬((281474976710656:Nat)<m*i.bytes):=by rw[hi3];omega
  simp[h0,h4,h5,Builtin.append_,run_underlying ht,sizeOf,typeInfo,hi0,Builtin.lenOf,h1,h2,Builtin.firstCells,loadCells,loadCellsFrom]
theorem VA{P:Program}{w:World}(t ty e:TypeId)(z:Value)(size bytes:Nat)(ht:P.underlying t=some (.slice e))(hi:(P.info? e).map (fun i=>(i.zero,i.size,i.bytes))=some (some z,size,bytes))
  (hzs:z.cells.size=size) (hsz:0<size) (ao:Option Addr) (n cap:Nat) (xs:List Value) (hown:jC w e size ao n cap xs)
  (xo:Option Addr) (m c:Nat) (news:List Value) (hrow:Row w (.slice xo m c) size m news) (h1:∀u∈news,u.oneCell'=true)
  (h63:n+m≤maxLen) (hbytes:(n+m)*bytes≤140737488355328):
  ∃ao' cap' w',(Builtin.append_ #[t,t] ty #[.slice ao n cap, .slice xo m c]).run P w= .ok (.slice ao' (n+m) cap') w'∧jC w' e size ao' (n+m) cap' (xs ++news)∧
   bV (fun i=>(Value.slice ao n cap).ownBlock=some i∧0<cap) w w'∧∀b,(Value.slice ao' (n+m) cap').ownBlock=some b→0<cap'→((Value.slice ao n cap).ownBlock=some b∧0<cap)∨w.heap.size≤b:=by
 have key:∀ao0,Own w 0 e size (.slice ao0 n cap) n xs→(Builtin.append_ #[t,t] ty #[.slice ao n cap, .slice xo m c]).run P w=(Builtin.append_ #[t,t] ty #[.slice ao0 n cap, .slice xo m c]).run P w→(∀i,(Value.slice ao0 n cap).ownBlock=some i→(Value.slice ao n cap).ownBlock=some i∧0<cap)→
   ∃ao' cap' w',(Builtin.append_ #[t,t] ty #[.slice ao n cap, .slice xo m c]).run P w= .ok (.slice ao' (n+m) cap') w'∧jC w' e size ao' (n+m) cap' (xs ++news)∧
   bV (fun i=>(Value.slice ao n cap).ownBlock=some i∧0<cap) w w'∧∀b,(Value.slice ao' (n+m) cap').ownBlock=some b→0<cap'→((Value.slice ao n cap).ownBlock=some b∧0<cap)∨w.heap.size≤b:=by
  intro ao0 ho he hk;obtain⟨v',w',hrun,h2,h3,h4⟩:=aFA (P:=P) (w:=w) 0 t ty e z size bytes ht hi hzs hsz _ n _ ho _ m _ hrow h1 h63 hbytes (Nat.zero_le _);obtain⟨-,ao',cap',rfl, -⟩:=id h2;refine⟨ao',cap',w',he.trans hrun,jC.of h2,h3.mono (fun i _ h=>hk i h),fun b hb _=>?_⟩;rcases h4 with h4|h4
  ·exact .inl (hk b (by rw[←h4];exact hb))
  ·exact .inr (h4 b hb)
 rcases hown with⟨rfl,rfl,rfl⟩|⟨h0,hown⟩
 ·by_cases hm:m=0
  ·subst hm;obtain rfl:news=[]:=List.eq_nil_of_length_eq_zero (by simpa using hrow.1);obtain⟨i,hi0,hi1,hi2,hi3⟩:=info_parts hi;refine⟨ao,0,w,?_, .inl ⟨rfl,rfl,rfl⟩,bV.refl _ _,fun b _ h=>by omega⟩
   cases xo<;>cases ao<;>simp[Builtin.append_,run_underlying ht,sizeOf,typeInfo,hi0,Builtin.lenOf,Builtin.firstCells,storeCells,loadCells,loadCellsFrom]
  ·exact key none (Own.nil _ _ _ _) (aEu t ty e size bytes z ht hi ao xo m c (by omega) (by unfold maxLen at h63;omega) (by simpa using hbytes)) (fun i h=>by simp[Value.ownBlock]at h)
 ·exact key ao hown rfl (fun i h=>⟨h,h0⟩)
theorem aDT{w:World}{b size c:Nat}{cs:List Value}{e:TypeId}(h:eE w b cs.toArray e)(hl:cs.length=size)(hc:Nat.ble 1 c=true):Row w (.slice (some ⟨b,0,none⟩) 1 c) size 1 cs:=
 ⟨by simpa using hl,by unfold maxLen;omega,_,c,rfl,Nat.le_of_ble_eq_true hc,fun _=>⟨b,0,rfl,fun j hj=>by rw[h.cell];simp⟩⟩
theorem aA.YY{t:TypeId}{s x:Operand}{b c s' b' s2 b2:Nat}{d2:cV}{z' z2 cs:List Value}{L2:List Chunk}{a:α}{C:Env→List Chunk→Prop}(hs:ev E s=some (.slice ao n cap))(hx:ev E x=some (.slice (some ⟨b,0,none⟩) 1 c))(hc:Nat.ble 1 c=true)
  (ht:aW P t=some ⟨.slice e,s',b',z'⟩) (he:aW P e=some ⟨d2,s2,b2,z2⟩) (hz:z2.length=s2) (hm:Take (arr ao n cap e f l) L L') (hb:Take (aD b cs e) L' L2) (hs2:s2=sz f) (ha:f a=cs)
  (hn:n+1≤9223372036854775807) (hby:(n+1)*b2≤140737488355328) (hd:cF N dst=true)
  (k:∀ao' cap',C (cD dst (.slice ao' (n+1) cap') E) (arr ao' (n+1) cap' e f (l ++[a])::L2)):aA P Q N ⟨dst, .call ⟨.builtin .append, #[s,x], #[t,t]⟩,ty,pos,aft,g⟩ E L C:=fun K hK A w hS hM=>by
 have hM':=hM.take hm;obtain⟨hown,hln⟩:=fH.1 (hM.has hm);have hbl:=jU.1 ((hM.take hm).sub (List.sublist_cons_self _ _)|>.has hb);obtain⟨z,hi,hzs⟩:=V8 he hz;subst hs2 ha;obtain⟨ao',cap',w',hrun,h2,h3,h4⟩:=VA (P:=P) (w:=w) t ty e z (sz f) b2 (b7 ht).slice hi hzs bF.pos ao n cap _ hown (some ⟨b,0,none⟩) 1 c (f a) (aDT hbl (by simp[bF.len]) hc) (bF.one a) (by unfold maxLen;omega) hby;unfold Oper.wp;have hr':(execOp A.eval ⟨dst, .call ⟨.builtin .append, #[s,x], #[t,t]⟩,ty,pos,aft,g⟩).run P w= .ok (.value (.slice ao' (n+1) cap')) w':=by
  simp only[execOp,resolve,invoke,builtin,Sem.run_bind,Sem.run_pure,Result.andThen_ok,List.map_toArray,List.map_cons,List.map_nil,hS.ev hs,hS.ev hx,hrun]
 rw[hr'];refine hK _ _ (k ao' cap') _ _ (hS.put _ hd) ?_;have h5:=hM'.sA (c':=arr ao' (n+1) cap' e f (l ++[a])) h3 dX (fun c hc _=>fS.2 hc) (fH.2 ⟨by simpa using h2,by simp[hln]⟩) (fun c hc=>(h4 c (fS.1 hc).1 (fS.1 hc).2).imp fS.2 id);exact((h5.perm (List.Perm.cons _ hb.perm)).perm (List.Perm.swap _ _ _)).sub (List.sublist_cons_self _ _)
theorem aA.YZ{t:TypeId}{s x:Operand}{m c s' b' s2 b2:Nat}{d2:cV}{z' z2:List Value}{xo:Option Addr}{l2:List α}{C:Env→List Chunk→Prop}(hs:ev E s=some (.slice ao n cap))(hx:ev E x=some (.slice xo m c))
  (ht:aW P t=some ⟨.slice e,s',b',z'⟩) (he:aW P e=some ⟨d2,s2,b2,z2⟩) (hz:z2.length=s2) (hm:Take (arr ao n cap e f l) L L') (hr:bU L' xo m c f l2) (hs2:s2=sz f)
  (hn:n+m≤9223372036854775807) (hby:(n+m)*b2≤140737488355328) (hd:cF N dst=true)
  (k:∀ao' cap',C (cD dst (.slice ao' (n+m) cap') E) (arr ao' (n+m) cap' e f (l ++l2)::L')):aA P Q N ⟨dst, .call ⟨.builtin .append, #[s,x], #[t,t]⟩,ty,pos,aft,g⟩ E L C:=fun K hK A w hS hM=>by
 have hM':=hM.take hm;obtain⟨hown,hln⟩:=fH.1 (hM.has hm);obtain⟨hrow,hl2⟩:=hr w (hM'.sub (List.sublist_cons_self _ _));obtain⟨z,hi,hzs⟩:=V8 he hz;subst hs2;obtain⟨ao',cap',w',hrun,h2,h3,h4⟩:=VA (P:=P) (w:=w) t ty e z (sz f) b2 (b7 ht).slice hi hzs bF.pos ao n cap _ hown xo m c _ hrow (TB f l2) (by unfold maxLen;omega) hby;unfold Oper.wp;have hr':(execOp A.eval ⟨dst, .call ⟨.builtin .append, #[s,x], #[t,t]⟩,ty,pos,aft,g⟩).run P w= .ok (.value (.slice ao' (n+m) cap')) w':=by
  simp only[execOp,resolve,invoke,builtin,Sem.run_bind,Sem.run_pure,Result.andThen_ok,List.map_toArray,List.map_cons,List.map_nil,hS.ev hs,hS.ev hx,hrun]
 rw[hr'];refine hK _ _ (k ao' cap') _ _ (hS.put _ hd) ?_;exact hM'.sA (c':=arr ao' (n+m) cap' e f (l ++l2)) h3 dX (fun c hc _=>fS.2 hc) (fH.2 ⟨by simpa using h2,by simp[hln,hl2]⟩) (fun c hc=>(h4 c (fS.1 hc).1 (fS.1 hc).2).imp fS.2 id)
theorem aA.makeSlice{t:TypeId}{x y:Operand}{s' b' s2 b2:Nat}{d2:cV}{z' z2:List Value}{z:α}{kx ky:IntKind}{j j':Int}{C:Env→List Chunk→Prop}(hx:ev E x=some (.int kx j))(hy:ev E y=some (.int ky j'))(hj:j=(n:Int))(hj':j'=(n:Int))
  (ht:aW P t=some ⟨.slice e,s',b',z'⟩) (he:aW P e=some ⟨d2,s2,b2,z2⟩) (hs2:s2=sz f) (hz:f z=z2) (hn:n≤9223372036854775807) (hby:n*b2≤140737488355328) (hd:cF N dst=true)
  (k:∀b,C (cD dst (.slice (some ⟨b,0,none⟩) n n) E) (arr (some ⟨b,0,none⟩) n n e f (List.replicate n z)::L)):aA P Q N ⟨dst, .makeSlice t x y,ty,pos,aft,g⟩ E L C:=fun K hK A w hS hM=>by
 obtain⟨xi,zv,h1,h2,h3,h4,h5⟩:=(b7 he).info;simp only at h2 h3 h5;subst hj hj';have hrun:=run_make (P:=P) w t e xi zv (b7 ht).slice h1 h4 kx ky n n (by omega) (Int.le_refl _) (by rw[h3];have:((n*b2:Nat):Int)≤140737488355328:=(by omega);rw[Int.natCast_mul,Int.mul_comm]at this;omega) (by omega);have hzs:zv.cells.size=sz f:=by
  have:=bF.len (f:=f) z;simp only[sz];rw[←this,hz,←h5];simp
 have hcells:madeCells zv.cells (n*xi.size)=((List.replicate n z).flatMap f).toArray:=by
  unfold madeCells;rw[h2,hs2];have:=UQ zv.cells (by rw[hzs];exact bF.pos) n;rw[hzs]at this;rw[hzs,this,h5,←hz];congr 1;have:∀m,(List.replicate m (f z)).flatten=(List.replicate m z).flatMap f:=by
   intro m;induction m with
   |zero=>rfl
   |succ m ih=>rw[List.replicate_succ,List.replicate_succ,List.flatten_cons,List.flatMap_cons,ih]
  exact this n
 unfold Oper.wp;have hr':(execOp A.eval ⟨dst, .makeSlice t x y,ty,pos,aft,g⟩).run P w= .ok (.value (.slice (some ⟨w.heap.size,0,none⟩) n n)) (w.alloc (.cells (madeCells zv.cells (n*xi.size)) e)):=by
  simp only[execOp,hS.ev hx,hS.ev hy,Sem.run_bind,hrun,Int.toNat_natCast,Result.andThen_ok,Sem.run_pure]
 rw[hr',hcells];refine hK _ _ (k w.heap.size) _ _ (hS.put _ hd) ?_;exact(hM.add ((bV.refl _ _).alloc _) (jU.2 (eE.new w _ e)) (fun b hb=>by rw[rM.1 hb];exact Nat.le_refl _)).mJ (f:=f) .head (List.replicate n z) rfl (by simp) (by unfold maxLen;omega)
inductive eF(E:Env)(n:Nat):Option Operand→Option Operand→Nat→Nat→Prop
 |all:eF E n none none 0 n
 |lo {x:Operand} {k:IntKind} {j:Int} {l:Nat}:ev E x=some (.int k j)→j=(l:Int)→eF E n (some x) none l n
 |hi {y:Operand} {k:IntKind} {j:Int} {h:Nat}:ev E y=some (.int k j)→j=(h:Int)→eF E n none (some y) 0 h
 |both {x y:Operand} {k k':IntKind} {j j':Int} {l h:Nat}:ev E x=some (.int k j)→j=(l:Int)→ev E y=some (.int k' j')→j'=(h:Int)→eF E n (some x) (some y) l h
theorem FP{t:TypeId}{s' b' s2 b2 lo hi:Nat}{d2:cV}{z' z2:List Value}{x:Operand}{ol oh:Option Operand}{A:Act}(hS:Sat N A E)(hx:ev E x=some (.slice ao n cap))(ht:aW P t=some ⟨.slice e,s',b',z'⟩)(he:aW P e=some ⟨d2,s2,b2,z2⟩)
  (hb:eF E n ol oh lo hi) (h1:lo≤hi) (h2:hi≤cap) (w:World):(execOp A.eval ⟨dst, .slice t x ol oh none,ty,pos,aft,g⟩).run P w= .ok (.value (.slice (if cap=lo then ao else ao.map (·.add (lo*s2))) (hi-lo) (cap-lo))) w:=by
 have hsz:=(b7 he).size w;have hu:=(b7 ht).slice;have hel:P.elem t=e:=by unfold Program.elem;rw[hu]
 have hu':P.underlying t=some (.slice (P.elem t)):=by rw[hel];exact hu
 cases hb with
 |all=>
  simp only[execOp,hS.ev hx,Option.map_none,Sem.run_bind];rw[run_sliceAt_slice _ _ _ _ _ _ hu',run_slice_all w t ao n cap hu',hel,hsz];rfl
 |lo hl hj=>
  subst hj;simp only[execOp,hS.ev hx,hS.ev hl,Option.map_none,Option.map_some,Sem.run_bind];rw[run_sliceAt_slice _ _ _ _ _ _ hu',run_slice_l w t ao n cap hu' _ _ (by omega) (by omega),hel,hsz];simp only[Int.toNat_natCast];rfl
 |hi hl hj=>
  subst hj;simp only[execOp,hS.ev hx,hS.ev hl,Option.map_none,Option.map_some,Sem.run_bind];rw[run_sliceAt_slice _ _ _ _ _ _ hu',run_slice_h w t ao n cap hu' _ _ (by omega) (by omega),hel,hsz];simp only[Int.toNat_natCast];rfl
 |both hl hj hl' hj'=>
  subst hj hj';simp only[execOp,hS.ev hx,hS.ev hl,hS.ev hl',Option.map_none,Option.map_some,Sem.run_bind];rw[run_sliceAt_slice _ _ _ _ _ _ hu',run_slice_lh w t ao n cap hu' _ _ _ _ (by omega) (by omega) (by omega),hel,hsz];simp only[Int.toNat_natCast];rfl
theorem QT{α:Type} [Inhabited α](f:α→List Value) [bF f](l:List α)(h:Nat):(l.flatMap f).take (h*sz f)=(l.take h).flatMap f:=by
 induction l generalizing h with
 |nil=>simp
 |cons a r ih=>
  cases h with
  |zero=>simp
  |succ h=>rw[List.take_succ_cons,List.flatMap_cons,List.flatMap_cons,List.take_append,bF.len a,Nat.add_mul,Nat.one_mul,Nat.add_sub_cancel,ih,List.take_of_length_le (by rw[bF.len a];simp only[sz];omega)]
theorem IS{α:Type} [Inhabited α](f:α→List Value) [bF f](l:List α)(h:Nat):(l.flatMap f).drop (h*sz f)=(l.drop h).flatMap f:=by
 induction l generalizing h with
 |nil=>simp
 |cons a r ih=>
  cases h with
  |zero=>simp
  |succ h=>rw[List.drop_succ_cons,List.flatMap_cons,List.drop_append,bF.len a,Nat.add_mul,Nat.one_mul,Nat.add_sub_cancel,ih,List.drop_of_length_le (by rw[bF.len a];simp only[sz];omega),List.nil_append]
theorem Own.sub [bF f]{w:World}{lo hi:Nat}(h:Own w 0 e (sz f) (.slice ao n cap) n (l.flatMap f))(hln:l.length=n)(h1:lo≤hi)(h2:hi≤n):
  Own w 0 e (sz f) (.slice (if cap=lo then ao else ao.map (·.add (lo*sz f))) (hi-lo) (cap-lo)) (hi-lo) (((l.take hi).drop lo).flatMap f):=by
 obtain⟨g1,ao',cap',g2,g3,g4,g5,g6⟩:=h;simp only[Value.slice.injEq]at g2;obtain⟨rfl, -,rfl⟩:=g2;refine⟨by rw[sY];simp;congr 1;omega,_,_,rfl,by omega,by omega,fun hn=>?_,fun ad fU=>?_⟩
 ·split at hn
  ·omega
  ·have:=g5 (by simpa using hn);omega
 ·cases ao with
  |none=>simp at fU
  |some a0=>
   obtain⟨b,o,sp⟩:=a0;obtain⟨q1,q2,cur,q3,q4,q5⟩:=g6 _ rfl;simp only at q1 q3 q4 q5;subst q1;have hkey:∀o',o'=o+lo*sz f∨hi=lo→(cur.toList.drop o').take ((hi-lo)*sz f)=((l.take hi).drop lo).flatMap f:=by
    intro o' ho';rcases ho' with rfl|hh
    ·rw[←IS,←QT,←q5,List.take_take,List.drop_take,List.drop_drop];have:min (hi*sz f) (n*sz f)=hi*sz f:=Nat.min_eq_left (Nat.mul_le_mul_right _ h2);rw[this,Nat.sub_mul]
    ·subst hh;simp
   have hmul:(cap-lo)*sz f+lo*sz f=cap*sz f:=by rw[←Nat.add_mul];congr 1;omega
   by_cases hc:cap=lo
   ·rw[if_pos hc]at fU
    cases fU
    refine⟨rfl,Nat.zero_le _,cur,q3,?_,hkey _ (.inr (by omega))⟩;rw[hc];simp;simp only[sz]at q4;omega
   ·rw[if_neg hc]at fU;simp only[Option.map_some,Option.some.injEq,Addr.sS]at fU;subst fU;refine⟨rfl,Nat.zero_le _,cur,q3,?_,hkey _ (.inl rfl)⟩;simp only[sz]at q4 hmul⊢;omega
theorem aA.PU{t:TypeId}{s' b' s2 b2 lo hi:Nat}{d2:cV}{z' z2:List Value}{x:Operand}{ol oh:Option Operand}{C:Env→List Chunk→Prop}(hx:ev E x=some (.slice ao n cap))(ht:aW P t=some ⟨.slice e,s',b',z'⟩)(he:aW P e=some ⟨d2,s2,b2,z2⟩)
  (hm:Take (arr ao n cap e f l) L L') (hs2:s2=sz f) (hb:eF E n ol oh lo hi) (h1:lo≤hi) (h2:hi≤n) (hd:cF N dst=true)
  (k:∀ao' cap',C (cD dst (.slice ao' (hi-lo) cap') E) (arr ao' (hi-lo) cap' e f ((l.take hi).drop lo)::L')):aA P Q N ⟨dst, .slice t x ol oh none,ty,pos,aft,g⟩ E L C:=fun K hK A w hS hM=>by
 obtain⟨hown,hln⟩:=fH.1 (hM.has hm);have hcap:n≤cap:=hown.le;unfold Oper.wp;rw[FP hS hx ht he hb h1 (by omega) w];subst hs2;refine hK _ _ (k _ _) _ _ (hS.put _ hd) ((hM.take hm).sA (S:=Nil) (bV.refl _ _) dX (fun _ h _=>h.elim) (fH.2 ⟨?_,by simp;omega⟩) (fun c hc=> .inl (fS.2 ?_)))
 ·rcases hown with⟨rfl,rfl,hnil⟩|⟨-,hown⟩
  ·obtain rfl:hi=0:=by omega
   obtain rfl:lo=0:=by omega
   exact .inl ⟨rfl,rfl,by simp⟩
  ·exact jC.of (hown.sub hln h1 h2)
 ·have h0:=(fS.1 hc).2;have this:=(fS.1 hc).1;refine⟨?_,by omega⟩
  cases ao with
  |none=>simp[Value.ownBlock]at this
  |some a0=>
   by_cases hc':cap=lo
   ·rw[if_pos hc']at this;exact this
   ·rw[if_neg hc']at this;simp only[Value.ownBlock,Option.map_some,Option.some.injEq]at this⊢;rw[←this];unfold Addr.add
    split<;>rfl
end
end
end
end Go.Proofs.YtofckcabpchcmaaGreatDoor
