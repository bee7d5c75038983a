/- More rules for walks, each with what closes its premises written into it: guarded operations of regions that draw. -/
import Derived.Test.YtjehflelkpacfaaGreatM06
import Derived.Laws.IdiomStrings
import Derived.Laws.Strings3
import Derived.Laws.Concat
import Derived.Laws.StructEq
set_option linter.unusedVariables false
set_option linter.unusedSimpArgs false
set_option linter.unusedSectionVars false
set_option maxRecDepth 100000
namespace Go.Proofs.YtjehflelkpacfaaGreat
open Go
section
variable{P:Program} [Tabbed P]{ops:Array Oper}{Q:Exit→Act→World→Prop}{N e:Nat}{LT:List Chunk}{fuel:Nat}{listed:Array Bool}{E:Env}{L F:List Chunk}
end
end Go.Proofs.YtjehflelkpacfaaGreat
namespace Go.Proofs.YtjehflelkpacfaaGreat
open Go Go.RowKit
abbrev sv(l:List UInt8):Value:= .string ⟨l.toArray⟩
def byC(x:UInt8):List Value:=[.int .u8 (x.toNat:Int)]
instance:Enc byC:=⟨fun _=>rfl,by decide,fun a u hu=>by simp[byC]at hu;subst hu;rfl⟩
theorem sv_size(l:List UInt8):(⟨l.toArray⟩:ByteArray).size=l.length:=by simp[ByteArray.size]
section
variable{P:Program} [Tabbed P]{Q:Exit→Act→World→Prop}{N:Nat}{E:Env}{L L':List Chunk}
variable{dst:Option Tmp}{ty:TypeId}{pos:String}{aft:Array Edge}{g:Option (Nat×Bool)}
variable{xT yT:TypeId}{x y:Operand}{a b:List UInt8}
theorem Still.sAdd(hx:ev E x=some (sv a))(hy:ev E y=some (sv b))(ha:a.length≤8388608)(hb:b.length≤8388608):Still P N ⟨dst, .binOp .add xT x y yT,ty,pos,aft,g⟩ E L (sv (a ++b)):=fun A w hs _=>by
 have h:=run_string_add_lists (P:=P) w a b (by omega) (by omega);simp only[execOp,hs.ev hx,hs.ev hy,eqGuard,binOp];simp[h]
theorem Still.sEql(hx:ev E x=some (sv a))(hy:ev E y=some (sv b)):Still P N ⟨dst, .binOp .eql xT x y yT,ty,pos,aft,g⟩ E L (.bool (decide (a=b))):=fun A w hs _=>by
 have e:(a==b)=decide (a=b):=by rw[Bool.eq_iff_iff];simp
 simp[execOp,hs.ev hx,hs.ev hy,eqGuard,binOp,Op.stringOp,e]
theorem Still.sNeq(hx:ev E x=some (sv a))(hy:ev E y=some (sv b)):Still P N ⟨dst, .binOp .neq xT x y yT,ty,pos,aft,g⟩ E L (.bool (!decide (a=b))):=fun A w hs _=>by
 have e:(a==b)=decide (a=b):=by rw[Bool.eq_iff_iff];simp
 simp[execOp,hs.ev hx,hs.ev hy,eqGuard,binOp,Op.stringOp,e]
theorem Still.sLen{t:TypeId}{s' b':Nat}{z':List Value}(hx:ev E x=some (sv a))(ht:tyOf P t=some ⟨.string,s',b',z'⟩):Still P N ⟨dst, .call ⟨.builtin .len, #[x], #[t]⟩,ty,pos,aft,g⟩ E L (.int .i64 (a.length:Int)):=fun A w hs _=>by
 have h:=run_len_string (P:=P) w t ty ⟨a.toArray⟩ (tyOk ht).string;rw[sv_size]at h;simp only[execOp,resolve,invoke,builtin,Sem.run_bind,Sem.run_pure,Result.andThen_ok,List.map_toArray,List.map_cons,List.map_nil,hs.ev hx,h];rfl
theorem Still.sAt{s' b' i:Nat}{z':List Value}{k:IntKind}{j:Int}(hx:ev E x=some (sv a))(hy:ev E y=some (.int k j))(ht:tyOf P xT=some ⟨.string,s',b',z'⟩)(hj:j=(i:Int))(hi:i<a.length):Still P N ⟨dst, .index xT x y,ty,pos,aft,g⟩ E L (.int .u8 ((a.getD i 0).toNat:Int)):=fun A w hs _=>by
 subst hj;have h:=run_index_string (P:=P) w xT ⟨a.toArray⟩ k (i:Int) (tyOk ht).string;rw[dif_pos ⟨by omega,by rw[sv_size];omega⟩]at h;have e:((⟨a.toArray⟩:ByteArray)[((i:Int)).toNat]'(by rw[sv_size];omega))=a.getD i 0:=by
  rw[List.getD_eq_getElem?_getD,List.getElem?_eq_getElem hi];rfl
 rw[e]at h;simp only[execOp,hs.ev hx,hs.ev hy,Sem.run_bind,h,Result.andThen_ok,Sem.run_pure]
theorem Still.sTo{s' b' i:Nat}{z':List Value}{k:IntKind}{j:Int}(hx:ev E x=some (sv a))(hy:ev E y=some (.int k j))(ht:tyOf P xT=some ⟨.string,s',b',z'⟩)(hj:j=(i:Int))(hi:i≤a.length):Still P N ⟨dst, .slice xT x none (some y) none,ty,pos,aft,g⟩ E L (sv (a.take i)):=fun A w hs _=>by
 subst hj;have h:=run_slice_string_h (P:=P) w xT ⟨a.toArray⟩ (tyOk ht).string k (i:Int) (by omega) (by rw[sv_size];omega);rw[ByteArray.extract_mk,Int.toNat_natCast,Nat.sub_zero,List.drop_zero]at h;have h2:=run_sliceAt_string (P:=P) w xT (sv a) none (some (.int k (i:Int))) none (tyOk ht).string;rw[h]at h2;simp only[execOp,hs.ev hx,hs.ev hy,Option.map_none,Option.map_some,Sem.run_bind,h2,Result.andThen_ok,Sem.run_pure]
theorem Still.sOf{src d e:TypeId}{s1 b1 s2 b2 s3 b3 c n:Nat}{z1 z2 z3:List Value}{ao:Option Addr}(hx:ev E x=some (.slice ao n c))(hr:Rdb L ao n c byC a)(hs:tyOf P src=some ⟨.slice e,s1,b1,z1⟩)(he:tyOf P e=some ⟨.int .u8,s2,b2,z2⟩)(hd:tyOf P d=some ⟨.string,s3,b3,z3⟩)(h0:0<n):Still P N ⟨dst, .convert src d x,ty,pos,aft,g⟩ E L (sv a):=fun A w hS hM=>by
 obtain⟨b,o,rfl, -⟩:=hr.cell hM (i:=0) h0;have hlen:a.length=n:=(hr w hM).2;have key:∀j (hj:j<a.length),w.cell? ((⟨b,o,none⟩:Addr).add j)=some (.int .u8 (a[j].toNat:Int)):=fun j hj=>by
  obtain⟨b',o',e,hc⟩:=hr.cell hM (i:=j) (by omega)
  cases e
  have h1:=hc 0 (.int .u8 ((a.getD j default).toNat:Int)) rfl;have h2:a.getD j default=a[j]:=by rw[List.getD_eq_getElem?_getD,List.getElem?_eq_getElem hj];rfl
  rw[h2,show sz byC=1 from rfl,Nat.mul_one,Nat.add_zero]at h1;rw[Addr.add_lit'];exact h1
 subst hlen;have h:=run_convert_bytes_back (P:=P) w src d e ⟨b,o,none⟩ c a (tyOk hs).slice (tyOk he).int (tyOk hd).string key;simp only[execOp,hS.ev hx,Sem.run_bind,h,Result.andThen_ok,Sem.run_pure]
end
theorem Js{A:Prop}(h:A:=by(first|exact Still.sEql rfl rfl|exact Still.sNeq rfl rfl|exact Still.sLen rfl rfl|exact Still.sAdd rfl rfl (by omega) (by omega))):A:=h
theorem Jx{A:Prop}(h:A:=by(repeat(first|exact Takes.nil|exact Take.head|(refine Take.blkEq ?_;(focus (first|rfl|(simp;done)|(simp;omega)|omega|(simp[*];done))))|(refine Take.arrEq ?_ ?_;(focus (first|rfl|(simp;done)|(simp;omega)|omega|(simp[*];done)));(focus (first|rfl|(simp;done)|(simp;omega)|omega|(simp[*];done))))|apply Take.tail|apply Takes.cons))):A:=h
theorem Jr{A:Prop}(h:A:=by(first|(apply Rdb.arr;focus ((repeat(first|exact Take.head|apply Take.tail));done))|(apply Rdb.rd;focus ((repeat(first|exact Take.head|apply Take.tail));done))|(apply Rdb.md_units;focus ((repeat(first|exact Take.head|apply Take.tail));done))|(apply Rdb.md_boxes;focus ((repeat(first|exact Take.head|apply Take.tail));done))|(apply Rdb.md_code;(focus ((repeat(first|exact Take.head|apply Take.tail));done));(focus (first|assumption|omega)))|(apply Rdb.md_locals;(focus ((repeat(first|exact Take.head|apply Take.tail));done));(focus (first|assumption|omega)))|(apply Rdb.old;(focus assumption);(focus ((repeat(first|exact Take.head|apply Take.tail));done))))):A:=h
theorem Jv{A:Prop}(h:A:=by(first|exact rfl|(refine congrArg (Value.int _) ?_;omega)|(refine congrArg (Value.int _) ?_;dsimp only;omega))):A:=h
theorem Ju{A:Prop}(h:A:=by(repeat(first|exact Sub.nil|(apply Sub.cons;(focus (exact rfl)))|(apply Sub.cons';(focus (exact rfl));(focus (first|exact rfl|(refine congrArg (Value.int _) ?_;omega)|(refine congrArg (Value.int _) ?_;dsimp only;omega))))))):A:=h
theorem Jn{A G:Prop}(k:G)(h:Bx G→A:=by intro hk;(try conv=>rhs;simp only[List.cons_append,List.nil_append]);exact hk.out):A:=h ⟨k⟩
theorem Jc{A G:Prop}(k:G)(h:Bx G→A:=by intro hk;(first|(apply Run.op;exact rfl)|refine Run.yes_ (h:=?_));exact hk.out):A:=h ⟨k⟩
theorem Jg{A G:Prop}(k:G)(h:Bx G→A:=by intro hk;(first|(apply Run.op;exact rfl;refine OpT.val_ (h:=Js) (k:=?_))|(refine Run.yes_ (h:=?_);refine OpT.val_ (h:=Js) (k:=?_))|refine RunQ.val_ (h:=Js) (k:=?_)|refine RunQ.yes_ (h:=Js) (k:=?_));exact hk.out):A:=h ⟨k⟩
theorem Jw{A G:Prop}(k:G)(h:Bx G→A:=by intro hk;(first|refine OpT.val_ (k:=?_)|refine OpT.store_ (k:=?_));exact hk.out):A:=h ⟨k⟩
theorem Jb{A G:Prop}(k:G)(h:Bx G→A:=by intro hk;(first|refine OpT.alloc_ (k:=?_)|refine OpT.box_ (k:=?_)|refine OpT.buildSlice_ (k:=?_)|refine OpT.buildSlice0_ (k:=?_));exact hk.out):A:=h ⟨k⟩
theorem Ja{A G:Prop}(k:G)(h:Bx G→A:=by intro hk;(first|refine OpT.append1_ (k:=?_)|refine OpT.cutA0_ (k:=?_)|refine OpT.cutR0_ (k:=?_)|refine OpT.cutA1_ (k:=?_)|refine OpT.cutA_ (k:=?_)|refine OpT.cutR_ (k:=?_));exact hk.out):A:=h ⟨k⟩
section
variable{P:Program} [Tabbed P]{ops:Array Oper}{Q:Exit→Act→World→Prop}{N e:Nat}{LT:List Chunk}{fuel:Nat}{listed:Array Bool}{E:Env}{L L' F:List Chunk}
variable{d0 d:Tmp}{op:Op}{dst:Option Tmp}{ty:TypeId}{pos:String}{aft:Array Edge}{g:Option (Nat×Bool)}
theorem JR{d:Tmp}{op:Op}{ty:TypeId}{pos:String}{aft:Array Edge}{v:Value}(i:Nat)(h:RunT P ops Q N e LT fuel (listed.setIfInBounds i true) ((d,v)::E) L)(hi:ops[i]?=some ⟨some d,op,ty,pos,aft,none⟩:=by exact rfl)(hns:Region.noSelect ops=true:=by kernel_rfl)(hf:Region.free .any ops listed i=true:=by kernel_rfl)(hr:(Region.ready .any ops listed).contains i=true:=by kernel_rfl)(hcl:closedB .any ops listed=true:=by kernel_rfl)(hw:waitsT .any ops i ops.size e=true:=by kernel_rfl)(hQ:PutOk Q:=by((repeat(first|exact PutOk.body|apply PutOk.nxt|apply PutOk.then_|apply PutOk.block));first|done|fail))(hd:Nat.blt d N=true:=by exact rfl)(ht:Takes LT L F:=by((repeat(first|exact Takes.nil|exact Take.head|apply Take.tail|apply Takes.cons));first|done|fail))(hy:Still P N ⟨some d,op,ty,pos,aft,none⟩ E LT v:=by exact stl):RunT P ops Q N e LT (fuel+1) listed E L:=RunT.takeR_ (i:=i) (hi:=hi) (hns:=hns) (hf:=hf) (hr:=hr) (hcl:=hcl) (hw:=hw) (hQ:=hQ) (hd:=hd) (ht:=ht) (hy:=hy) (h:=h)
theorem JN{d:Tmp}{op:Op}{ty:TypeId}{pos:String}{aft:Array Edge}{v:Value}(i:Nat)(h:RunT P ops Q N e LT fuel (listed.setIfInBounds i true) ((d,v)::E) L)(hi:ops[i]?=some ⟨some d,op,ty,pos,aft,none⟩:=by exact rfl)(hns:Region.noSelect ops=true:=by kernel_rfl)(hf:Region.free .any ops listed i=true:=by kernel_rfl)(hr:(Region.ready .any ops listed).contains i=true:=by kernel_rfl)(he:Nat.ble ops.size e=true:=by kernel_rfl)(hsz:Nat.beq listed.size ops.size=true:=by kernel_rfl)(hQ:PutOk Q:=by((repeat(first|exact PutOk.body|apply PutOk.nxt|apply PutOk.then_|apply PutOk.block));first|done|fail))(hd:Nat.blt d N=true:=by exact rfl)(ht:Takes LT L F:=by((repeat(first|exact Takes.nil|exact Take.head|apply Take.tail|apply Takes.cons));first|done|fail))(hy:Still P N ⟨some d,op,ty,pos,aft,none⟩ E LT v:=by exact stl):RunT P ops Q N e LT (fuel+1) listed E L:=RunT.takeN_ (i:=i) (hi:=hi) (hns:=hns) (hf:=hf) (hr:=hr) (he:=he) (hsz:=hsz) (hQ:=hQ) (hd:=hd) (ht:=ht) (hy:=hy) (h:=h)
theorem JT{o:Oper}(i:Nat)(h:OpT P Q N o E L (fun E' L'=>Good e LT (listed.setIfInBounds i true) L'∧RunT P ops Q N e LT fuel (listed.setIfInBounds i true) E' L'))(hr:Region.ready .any ops listed=[i]:=by kernel_rfl)(ho:ops[i]?=some o:=by exact rfl)(hg:o.guard=none:=by exact rfl):RunT P ops Q N e LT (fuel+1) listed E L:=RunT.one_ (i:=i) (hr:=hr) (ho:=ho) (hg:=hg) (h:=h)
theorem JK{σ:Type}{dst:Option Tmp}{x:Operand}{args:List Operand}{tys:Array TypeId}{ty:TypeId}{pos:String}{aft:Array Edge}{g:Option (Nat×Bool)}{f:FuncId}{vs:List Value}{R pre F:List Chunk}{post:σ→Prop}{val:σ→Value}{mem:σ→List Chunk}{C:Env→List Chunk→Prop}(spec:Fn P f vs.toArray R pre post val mem)(k:∀s,post s→C (upd dst (val s) E) (mem s ++F))(hx:ev E x=some (.func (.func f) #[] #[]):=by exact rfl)(hv:Evs E args vs:=by exact evz)(hc:callB P f=true:=by kernel_rfl)(hd:fitsB N dst=true:=by exact rfl)(t:Takes pre L F:=by((repeat(first|exact Takes.nil|exact Take.head|apply Take.tail|apply Takes.cons));first|done|fail))(r:∀w,Reads w R F:=by intro w;exact rds):OpT P Q N ⟨dst, .call ⟨.value x,args.toArray,tys⟩,ty,pos,aft,g⟩ E L C:=OpT.call0_ (hx:=hx) (hv:=hv) (hc:=hc) (hd:=hd) (spec:=spec) (t:=t) (r:=r) (k:=k)
theorem JL{σ:Type}{dst:Option Tmp}{x:Operand}{args:List Operand}{tys:Array TypeId}{ty:TypeId}{pos:String}{aft:Array Edge}{g:Option (Nat×Bool)}{f:FuncId}{vs:List Value}{cap:Array Value}{R pre F:List Chunk}{post:σ→Prop}{val:σ→Value}{mem:σ→List Chunk}{C:Env→List Chunk→Prop}(spec:Fn P f (vs.toArray ++cap) R pre post val mem)(k:∀s,post s→C (upd dst (val s) E) (mem s ++F))(hx:ev E x=some (.func (.func f) #[] cap):=by exact rfl)(hv:Evs E args vs:=by exact evz)(hc:callB P f=true:=by kernel_rfl)(hd:fitsB N dst=true:=by exact rfl)(t:Takes pre L F:=by((repeat(first|exact Takes.nil|exact Take.head|apply Take.tail|apply Takes.cons));first|done|fail))(r:∀w,Reads w R F:=by intro w;exact rds):OpT P Q N ⟨dst, .call ⟨.value x,args.toArray,tys⟩,ty,pos,aft,g⟩ E L C:=OpT.call_ (hx:=hx) (hv:=hv) (hc:=hc) (hd:=hd) (spec:=spec) (t:=t) (r:=r) (k:=k)
end
theorem Jo{A G:Prop}(k:G)(h:Bx G→A:=by(intro hk;(first|(apply Run.op;exact rfl;(first|refine OpT.val_ (k:=?_)|refine OpT.store_ (k:=?_)))|apply Cod.seqN|apply Cod.region|apply Cod.block|apply Cod.exit|apply Cod.ret|apply Cod.skip|apply Cod.label|apply Run.nil|apply RunQ.nil|apply RunS.nil|apply End.seqN|apply End.in_normal|apply End.in_ret|apply End.in_same|apply End.then_exit|apply End.then_ret|apply End.nxt_exit|apply End.nxt_ret|refine End.in_other_ (h:=?_)|refine Cod.cond_true_ (h1:=?_)|refine Cod.cond_false_ (h1:=?_)|refine Cod.tail_ (h:=?_)|refine Cod.quietA_ (h:=?_)|refine RunQ.val_ (k:=?_)|refine RunQ.yes_ (k:=?_)|refine RunQ.no_ (k:=?_)|refine RunQ.undef_ (k:=?_)|refine RunS.val_ (k:=?_)|refine RunS.yes_ (k:=?_)|refine RunS.no_ (k:=?_)|refine RunS.undef_ (k:=?_)|(refine Run.yes_ (h:=?_);(first|refine OpT.val_ (k:=?_)|refine OpT.store_ (k:=?_)))|refine Run.no_ (k:=?_)|refine Run.undef_ (k:=?_)|refine Run.knowT_ (k:=?_)|refine Run.knowF_ (k:=?_)|refine RunQ.knowT_ (k:=?_)|refine RunQ.knowF_ (k:=?_)|refine RunS.knowT_ (k:=?_)|refine RunS.knowF_ (k:=?_));repeat(first|(apply Run.op;exact rfl;(first|refine OpT.val_ (k:=?_)|refine OpT.store_ (k:=?_)))|apply Cod.seqN|apply Cod.region|apply Cod.block|apply Cod.exit|apply Cod.ret|apply Cod.skip|apply Cod.label|apply Run.nil|apply RunQ.nil|apply RunS.nil|apply End.seqN|apply End.in_normal|apply End.in_ret|apply End.in_same|apply End.then_exit|apply End.then_ret|apply End.nxt_exit|apply End.nxt_ret|refine End.in_other_ (h:=?_)|refine Cod.cond_true_ (h1:=?_)|refine Cod.cond_false_ (h1:=?_)|refine Cod.tail_ (h:=?_)|refine Cod.quietA_ (h:=?_)|refine RunQ.val_ (k:=?_)|refine RunQ.yes_ (k:=?_)|refine RunQ.no_ (k:=?_)|refine RunQ.undef_ (k:=?_)|refine RunS.val_ (k:=?_)|refine RunS.yes_ (k:=?_)|refine RunS.no_ (k:=?_)|refine RunS.undef_ (k:=?_)|(refine Run.yes_ (h:=?_);(first|refine OpT.val_ (k:=?_)|refine OpT.store_ (k:=?_)))|refine Run.no_ (k:=?_)|refine Run.undef_ (k:=?_)|refine Run.knowT_ (k:=?_)|refine Run.knowF_ (k:=?_)|refine RunQ.knowT_ (k:=?_)|refine RunQ.knowF_ (k:=?_)|refine RunS.knowT_ (k:=?_)|refine RunS.knowF_ (k:=?_)));exact hk.out):A:=h ⟨k⟩
theorem JB{A G:Prop}(k:G)(h:Bx G→A:=by intro hk;(first|(apply Run.op;exact rfl;(first|refine OpT.alloc_ (k:=?_)|refine OpT.box_ (k:=?_)|refine OpT.buildSlice_ (k:=?_)|refine OpT.buildSlice0_ (k:=?_)))|(refine Run.yes_ (h:=?_);(first|refine OpT.alloc_ (k:=?_)|refine OpT.box_ (k:=?_)|refine OpT.buildSlice_ (k:=?_)|refine OpT.buildSlice0_ (k:=?_))));exact hk.out):A:=h ⟨k⟩
theorem JA{A G:Prop}(k:G)(h:Bx G→A:=by intro hk;(first|(apply Run.op;exact rfl;(first|refine OpT.append1_ (k:=?_)|refine OpT.cutA0_ (k:=?_)|refine OpT.cutR0_ (k:=?_)|refine OpT.cutA1_ (k:=?_)|refine OpT.cutA_ (k:=?_)|refine OpT.cutR_ (k:=?_)))|(refine Run.yes_ (h:=?_);(first|refine OpT.append1_ (k:=?_)|refine OpT.cutA0_ (k:=?_)|refine OpT.cutR0_ (k:=?_)|refine OpT.cutA1_ (k:=?_)|refine OpT.cutA_ (k:=?_)|refine OpT.cutR_ (k:=?_))));exact hk.out):A:=h ⟨k⟩
theorem Jm{A:Prop}(h:A:=by exact Reads.md tk (Reads.any tk (by simp) .nil)):A:=h
theorem Jz{A G:Prop}(k:G)(h:Bx G→A:=by intro hk;(first|(refine JB ?_;exact hk.out)|(refine JA ?_;exact hk.out))):A:=h ⟨k⟩
theorem Jy{A G:Prop}(k:G)(h:Bx G→A:=by intro hk;(first|(refine Jo ?_;exact hk.out)|(refine JB ?_;exact hk.out)|(refine JA ?_;exact hk.out))):A:=h ⟨k⟩
theorem JE{P:Program}{f:FuncId}{fn:Func}{c:Code}{σ:Type}{N:Nat}{R pre:List Chunk}{post:σ→Prop}{val:σ→Value}{mem:σ→List Chunk}(args:List Value)(hf:P.funcs[f]?=some fn)(hN:fn.ntmps=N)(h:∀w S,Cod P (bodyPost P fn (Owes post val mem w S)) N c (first 0 args) (old w S::(R ++pre)))(hb:fn.body=some c:=by exact rfl)(hA:Nat.ble args.length N=true:=by exact rfl)(hR:∀c∈R,c.excl=false:=by simp[rd_excl,md_excl]):Fn P f args.toArray R pre post val mem:=Fn.enter hf hb N hN hA hR h
theorem JQ{A G S:Prop}(spec:S)(k:G)(h:S→Bx G→A:=by intro sp hk;(first|(apply Run.op;exact rfl)|refine Run.yes_ (h:=?_));exact OpT.call0_ (spec:=sp) (k:=hk.out)):A:=h spec ⟨k⟩
theorem JM{A G S:Prop}(spec:S)(k:G)(h:S→Bx G→A:=by intro sp hk;(first|(apply Run.op;exact rfl)|refine Run.yes_ (h:=?_));exact OpT.call0_ (spec:=sp) (r:=fun w=>Jm) (k:=hk.out)):A:=h spec ⟨k⟩
theorem JG{e:Nat}{LT:List Chunk}{listed:Array Bool}{L:List Chunk}{B:Prop}(k:B)(h:Good e LT listed L:=by exact gud):Good e LT listed L∧B:=⟨h,k⟩
abbrev Jd:= @List.getD_eq_getElem?_getD
abbrev Je:= @List.getElem?_eq_getElem
abbrev Jf:= @List.length_map
abbrev Ji:= @List.length_set
abbrev Jj:= @Int.toNat_natCast
abbrev Jk:= @List.nil_append
abbrev Jl:= @List.length_append
abbrev Jo':= @Int.toNat_of_nonneg
abbrev Jp:= @List.take_succ_eq_append_getElem
abbrev Jq:= @List.map_append
abbrev Jt:= @List.append_assoc
abbrev JI:= @Int.eq_ofNat_of_zero_le
abbrev JP:= @List.length_pos_iff
abbrev JS:= @List.getElem?_set_self
abbrev JU:= @List.getElem?_map
abbrev JV:= @decide_eq_true_eq
abbrev JW:= @List.length_cons
abbrev JX:= @Bool.and_eq_true
abbrev JY:= @decide_eq_false_iff_not
abbrev JZ:= @Option.getD_some
end Go.Proofs.YtjehflelkpacfaaGreat
namespace Go.Proofs.YtjehflelkpacfaaGreat.Ver
open ImgM
def plain(t:Int):Bool:=decide (t=1)||decide (t=2)
def isUnit(M:Mdl)(i kind:Int):Bool:=decide (0≤i)&&decide (i<(M.units.length:Int))&&decide ((M.units.getD i.toNat default).kind=kind)
def handle(M:Mdl)(t:Int):Bool:=decide (10≤t)&&isUnit M (t-10) 3
def rng(b:Bool):Int:=if b then 0 else 3
def instr(M:Mdl)(u:Unt)(i:Ins):Int:=
 if i.op=2 then rng (decide (i.a=0)||decide (i.a=1))
 else if i.op=3∨i.op=4 then rng (decide (0≤i.a)&&decide (i.a<(u.locals.length:Int)))
 else if i.op=21∨i.op=22 then rng (decide (0≤i.a)&&decide (i.a<(u.code.length:Int)))
 else if i.op=23 then rng (isUnit M i.a 2)
 else if i.op=29 then rng (isUnit M i.a 3)
 else if i.op=26∨i.op=27 then rng (decide (0≤i.a)&&decide (i.a<(M.boxes.length:Int)))
 else if i.op<1∨32<i.op then 1 else 0
def head(M:Mdl)(u:Unt):Int:=
 if u.kind≠2∧u.kind≠3∧u.kind≠4 then 1
 else if 200<u.locals.length∨u.params<0∨6<u.params∨(u.locals.length:Int)<u.params∨(u.kind=4∧0<u.params)then 5
 else if u.code.length<1∨4000<u.code.length then 5
 else if(u.kind≠4∧plain u.result=false)∨(u.kind=3∧plain u.takes=false)then 9
 else if u.locals.any (fun t=>!plain t&& !handle M t)then 9
 else 0
structure Where where
 err:Int
 unit:Int
 at_:Int
deriving DecidableEq,Inhabited
def Where.ok:Where:=⟨0,0,0⟩
def boxes:Nat→List (Int×Int)→Where
 |_,[]=> .ok
 |i,b::r=>if plain b.1=false then⟨9,0,i⟩else if b.2<1∨20<b.2 then⟨3,0,i⟩else boxes (i+1) r
def instrs(M:Mdl)(u:Unt)(k:Nat):Nat→List Ins→Where
 |_,[]=> .ok
 |j,i::r=>if instr M u i≠0 then⟨instr M u i,k,j⟩else instrs M u k (j+1) r
def unit(M:Mdl)(k:Nat)(u:Unt):Where:=if head M u≠0 then⟨head M u,k,0⟩else instrs M u k 0 u.code
def units(M:Mdl):Nat→List Unt→Where
 |_,[]=> .ok
 |k,u::r=>if(unit M k u).err≠0 then unit M k u else units M (k+1) r
def form(M:Mdl):Where:=
 if 30<M.boxes.length∨30<M.units.length then⟨5,0,0⟩
 else if(boxes 0 M.boxes).err≠0 then boxes 0 M.boxes
 else if(units M 0 M.units).err≠0 then units M 0 M.units
 else if(M.units.filter (fun u=>decide (u.kind=4))).length=0 then⟨6,0,0⟩
 else .ok
abbrev Shape:=List Int×List Bool
structure Flow where
 at_:List (Int×Shape)
 todo:List Int
 stack:List Int
 has:List Bool
 err:Int
deriving Inhabited,DecidableEq
def find(l:List (Int×Shape))(k:Int):Option Shape:=(l.find? (fun p=>decide (p.1=k))).map (·.2)
def put:List (Int×Shape)→Int→Shape→List (Int×Shape)
 |[],k,s=>[(k,s)]
 |p::r,k,s=>if p.1=k then(p.1,s)::r else p::put r k s
def fail(e:Int)(f:Flow):Flow:=if f.err=0 then{f with err:=e}else f
def push(t:Int)(f:Flow):Flow:=if 300<f.stack.length+1 then fail 4 {f with stack:=f.stack ++[t]}else{f with stack:=f.stack ++[t]}
def pop(f:Flow):Int×Flow:=if f.stack.length=0 then(0,fail 12 f)else(f.stack.getD (f.stack.length-1) 0,{f with stack:=f.stack.take (f.stack.length-1)})
def want1(t:Int)(f:Flow):Flow:=if(pop f).1≠t then fail 9 (pop f).2 else(pop f).2
def want(l:List Int)(f:Flow):Flow:=l.foldr want1 f
def meet:List Bool→List Bool→List Bool
 |a::r,b::s=>(a&&b)::meet r s
 |_,_=>[]
def to(n:Nat)(p:Int)(f:Flow):Flow:=
 if f.err≠0 then f
 else if p=(n:Int)then fail 3 f
 else match find f.at_ p with
  |none=>{f with at_:=f.at_ ++[(p,(f.stack,f.has))],todo:=f.todo ++[p]}
  |some s=>if s.1≠f.stack then fail 8 f else if meet s.2 f.has=s.2 then f else{f with at_:=put f.at_ p (s.1,meet s.2 f.has),todo:=f.todo ++[p]}
def args(M:Mdl)(k:Int)(f:Flow):Flow:=want ((M.units.getD k.toNat default).locals.take (M.units.getD k.toNat default).params.toNat) f
def gen(M:Mdl)(f:Flow):Option Int×Flow:=
 if(pop f).2.err≠0 then(none,(pop f).2)
 else if handle M (pop f).1=false then(none,fail 9 (pop f).2)
 else(some ((pop f).1-10),(pop f).2)
def done(f:Flow):Flow:=if f.stack.length=0 then f else fail 12 f
def special(M:Mdl)(u:Unt)(i:Ins)(f:Flow):Bool×Flow:=
 if i.op=23 then(true,push (M.units.getD i.a.toNat default).result (args M i.a f))
 else if i.op=29 then(true,push (10+i.a) (args M i.a f))
 else if i.op=24 then(false,done (want [u.result] (if u.kind≠2 then fail 8 f else f)))
 else if i.op=25 then(false,done (if u.kind=2 then fail 8 f else f))
 else if i.op=26 then(true,want [(M.boxes.getD i.a.toNat default).1] f)
 else if i.op=27 then(true,push (M.boxes.getD i.a.toNat default).1 f)
 else if i.op=28 then(true,if(pop f).2.err=0∧plain (pop f).1=false then fail 9 (pop f).2 else(pop f).2)
 else if i.op=30 then(true,match gen M (pop f).2 with
  |(none,g)=>g
  |(some k,g)=>push (M.units.getD k.toNat default).result (if(pop f).1≠(M.units.getD k.toNat default).takes then fail 9 g else g))
 else if i.op=31 then(true,push u.takes (want [u.result] (if u.kind≠3 then fail 8 f else f)))
 else if i.op=32 then(true,push 2 (gen M f).2)
 else(true,f)
def step(M:Mdl)(u:Unt)(i:Ins)(f:Flow):Bool×Flow:=
 if i.op=1 then(true,push 1 f)
 else if i.op=2 then(true,push 2 f)
 else if i.op=3 then(true,push (u.locals.getD i.a.toNat 0) (if f.has.getD i.a.toNat false then f else fail 11 f))
 else if i.op=4 then(true,{want [u.locals.getD i.a.toNat 0] f with has:=(want [u.locals.getD i.a.toNat 0] f).has.set i.a.toNat true})
 else if i.op=5 then(true,(pop f).2)
 else if i.op=6 then(true,push 1 (want [1] f))
 else if i.op=7 then(true,push 2 (want [2] f))
 else if 8≤i.op∧i.op≤12 then(true,push 1 (want [1,1] f))
 else if i.op=13∨i.op=14 then(true,push 2 (want [(pop f).1] (if(pop f).1≠1∧(pop f).1≠2 then fail 9 (pop f).2 else(pop f).2)))
 else if 15≤i.op∧i.op≤18 then(true,push 2 (want [1,1] f))
 else if i.op=19∨i.op=20 then(true,push 2 (want [2,2] f))
 else if i.op=21 then(false,to u.code.length i.a f)
 else if i.op=22 then(true,to u.code.length i.a (want [2] f))
 else special M u i f
def round(M:Mdl)(u:Unt)(p:Int)(r:List Int)(f:Flow):Flow:=
 let s:=(find f.at_ p).getD ([],[])
 let g:=step M u (u.code.getD p.toNat default) {f with todo:=r,stack:=s.1,has:=s.2}
 if g.1 then to u.code.length (p+1) g.2 else g.2
def run(M:Mdl)(u:Unt)(k:Nat):Nat→Flow→Where
 |0,_=> .ok
 |n+1,f=>match f.todo with
  |[]=> .ok
  |p::r=>if(round M u p r f).err≠0 then⟨(round M u p r f).err,k,p⟩else run M u k n (round M u p r f)
def most(u:Unt):Nat:=2*(u.code.length*(u.locals.length+1))+1
def start(u:Unt):Flow:=to u.code.length 0 ⟨[],[],[],(List.replicate u.params.toNat true ++List.replicate (u.locals.length-u.params.toNat) false),0⟩
def code(M:Mdl)(k:Nat):Where:=run M (M.units.getD k default) k (most (M.units.getD k default)) (start (M.units.getD k default))
def codes(M:Mdl):Nat→Nat→Where
 |_,0=> .ok
 |k,n+1=>if(code M k).err≠0 then code M k else codes M (k+1) n
def calls(l:List Ins)(out:List Int):List Int:=l.foldl (fun out i=>if(i.op=23∨i.op=29)∧i.a∉out then out ++[i.a]else out) out
def reachRun(M:Mdl):Nat→Nat→List Int→List Int
 |0,_,out=>out
 |n+1,k,out=>if k<out.length then reachRun M n (k+1) (calls (M.units.getD (out.getD k 0).toNat default).code out)else out
def reach(M:Mdl)(task:Nat):List Int:=reachRun M (M.units.length+1) 0 [(task:Int)]
def uses(M:Mdl)(op b:Int)(task:Nat):Bool:=(reach M task).any fun x=>(M.units.getD x.toNat default).code.any fun i=>decide (i.op=op)&&decide (i.a=b)
def users(M:Mdl)(op b:Int):Nat:=((List.range M.units.length).filter fun k=>decide ((M.units.getD k default).kind=4)&&uses M op b k).length
def owned(M:Mdl):Nat→Nat→Where
 |_,0=> .ok
 |b,n+1=>if 1<users M 26 b∨1<users M 27 b then⟨8,0,b⟩else owned M (b+1) n
def verify(M:Mdl):Where:=
 if(form M).err≠0 then form M
 else if(codes M 0 M.units.length).err≠0 then codes M 0 M.units.length
 else owned M 0 M.boxes.length
theorem boxes_1{i:Nat}{b:Int×Int}{r}(h:plain b.1=false):boxes i (b::r)=⟨9,0,i⟩:=by unfold boxes;rw[if_pos h]
theorem boxes_2{i:Nat}{b:Int×Int}{r}(h:plain b.1=true)(h2:b.2<1∨20<b.2):boxes i (b::r)=⟨3,0,i⟩:=by unfold boxes;rw[if_neg (by rw[h];decide),if_pos h2]
theorem boxes_3{i:Nat}{b:Int×Int}{r}(h:plain b.1=true)(h2:¬(b.2<1∨20<b.2)):boxes i (b::r)=boxes (i+1) r:=by
 conv=>lhs;unfold boxes
 rw[if_neg (by rw[h];decide),if_neg h2]
theorem instrs_1{M:Mdl}{u:Unt}{k j:Nat}{i:Ins}{r}(h:¬instr M u i=0):instrs M u k j (i::r)=⟨instr M u i,k,j⟩:=by unfold instrs;rw[if_pos h]
theorem instrs_2{M:Mdl}{u:Unt}{k j:Nat}{i:Ins}{r}(h:instr M u i=0):instrs M u k j (i::r)=instrs M u k (j+1) r:=by
 conv=>lhs;unfold instrs
 rw[if_neg (fun h'=>h' h)]
theorem unit_1{M:Mdl}{k:Nat}{u:Unt}(h:¬head M u=0):unit M k u=⟨head M u,k,0⟩:=by unfold unit;rw[if_pos h]
theorem unit_2{M:Mdl}{k:Nat}{u:Unt}(h:head M u=0):unit M k u=instrs M u k 0 u.code:=by unfold unit;rw[if_neg (fun h'=>h' h)]
theorem units_1{M:Mdl}{k:Nat}{u:Unt}{r}(h:¬(unit M k u).err=0):units M k (u::r)=unit M k u:=by unfold units;rw[if_pos h]
theorem units_2{M:Mdl}{k:Nat}{u:Unt}{r}(h:(unit M k u).err=0):units M k (u::r)=units M (k+1) r:=by
 conv=>lhs;unfold units
 rw[if_neg (fun h'=>h' h)]
theorem form_1{M:Mdl}(h:30<M.boxes.length∨30<M.units.length):form M=⟨5,0,0⟩:=by unfold form;rw[if_pos h]
theorem form_2{M:Mdl}{w:Where}(h:¬(30<M.boxes.length∨30<M.units.length))(hb:boxes 0 M.boxes=w)(he:¬w.err=0):form M=w:=by unfold form;rw[if_neg h,hb,if_pos he]
theorem form_3{M:Mdl}{w:Where}(h:¬(30<M.boxes.length∨30<M.units.length))(hb:(boxes 0 M.boxes).err=0)(hu:units M 0 M.units=w)(he:¬w.err=0):form M=w:=by
 unfold form;rw[if_neg h,if_neg (fun h'=>h' hb),hu,if_pos he]
theorem form_4{M:Mdl}(h:¬(30<M.boxes.length∨30<M.units.length))(hb:(boxes 0 M.boxes).err=0)(hu:(units M 0 M.units).err=0)(ht:(M.units.filter (fun u=>decide (u.kind=4))).length=0):form M=⟨6,0,0⟩:=by
 unfold form;rw[if_neg h,if_neg (fun h'=>h' hb),if_neg (fun h'=>h' hu),if_pos ht]
theorem form_5{M:Mdl}(h:¬(30<M.boxes.length∨30<M.units.length))(hb:(boxes 0 M.boxes).err=0)(hu:(units M 0 M.units).err=0)(ht:¬(M.units.filter (fun u=>decide (u.kind=4))).length=0):form M=⟨0,0,0⟩:=by
 unfold form;rw[if_neg h,if_neg (fun h'=>h' hb),if_neg (fun h'=>h' hu),if_neg ht];rfl
theorem tasks_snoc{l:List Unt}{u:Unt}{t:Nat}(ht:t=(l.filter (fun u=>decide (u.kind=4))).length):((l ++[u]).filter (fun u=>decide (u.kind=4))).length=if u.kind=4 then t+1 else t:=by
 rw[List.filter_append,Jl,←ht]
 by_cases h:u.kind=4<;>simp[h]
structure Same(f g:Flow):Prop where
 at_:g.at_=f.at_
 todo:g.todo=f.todo
 has:g.has=f.has
theorem Same.refl(f:Flow):Same f f:=⟨rfl,rfl,rfl⟩
theorem Same.trans{f g h:Flow}(a:Same f g)(b:Same g h):Same f h:=⟨b.at_.trans a.at_,b.todo.trans a.todo,b.has.trans a.has⟩
structure Kept(N:Nat)(f g:Flow):Prop where
 same:Same f g
 len:g.stack.length≤N
 ty:(∀t∈f.stack,In64 t)→∀t∈g.stack,In64 t
 err:¬f.err=0→g.err=f.err
theorem fail_kept(e:Int)(f:Flow):Kept f.stack.length f (fail e f):=by
 unfold fail
 split
 ·exact⟨⟨rfl,rfl,rfl⟩,Nat.le_refl _,fun h=>h,fun h=>absurd ‹f.err=0› h⟩
 ·exact⟨⟨rfl,rfl,rfl⟩,Nat.le_refl _,fun h=>h,fun _=>rfl⟩
theorem fail_err(e:Int)(he:¬e=0)(f:Flow):¬(fail e f).err=0:=by
 unfold fail
 split
 ·exact he
 ·assumption
theorem Kept.refl(f:Flow):Kept f.stack.length f f:=⟨Same.refl f,Nat.le_refl _,fun h=>h,fun _=>rfl⟩
theorem Kept.le{N M:Nat}{f g:Flow}(h:Kept N f g)(hm:N≤M):Kept M f g:=⟨h.same,Nat.le_trans h.len hm,h.ty,h.err⟩
theorem Kept.trans{N M:Nat}{f g h:Flow}(a:Kept N f g)(b:Kept M g h):Kept M f h:=
 ⟨a.same.trans b.same,b.len,fun t=>b.ty (a.ty t),fun e=>(b.err (by rw[a.err e];exact e)).trans (a.err e)⟩
theorem pop_kept(f:Flow):Kept f.stack.length f (pop f).2:=by
 unfold pop
 split
 ·exact fail_kept _ _
 ·exact⟨⟨rfl,rfl,rfl⟩,by simp,fun h t ht=>h t (List.mem_of_mem_take ht),fun _=>rfl⟩
theorem want1_kept(t:Int)(f:Flow):Kept f.stack.length f (want1 t f):=by
 have h:=pop_kept f;unfold want1
 split
 ·exact(h.trans (fail_kept 9 _)).le h.len
 ·exact h
theorem want_kept(l:List Int)(f:Flow):Kept f.stack.length f (want l f):=by
 induction l with
 |nil=>exact Kept.refl f
 |cons t r ih=>exact(ih.trans (want1_kept t _)).le ih.len
theorem push_kept(t:Int)(f:Flow)(ht:In64 t):Kept (f.stack.length+1) f (push t f):=by
 unfold push
 split
 ·have h:=fail_kept 4 {f with stack:=f.stack ++[t]};refine⟨⟨h.same.at_,h.same.todo,h.same.has⟩,by have:=h.len;simpa using this,fun hf=>h.ty (fun u hu=>?_),h.err⟩;rcases List.mem_append.1 hu with hu|hu
  ·exact hf u hu
  ·simp at hu;rw[hu];exact ht
 ·refine⟨⟨rfl,rfl,rfl⟩,by simp,fun hf u hu=>?_,fun _=>rfl⟩;rcases List.mem_append.1 hu with hu|hu
  ·exact hf u hu
  ·simp at hu;rw[hu];exact ht
theorem push_ok(t:Int)(f:Flow)(h:(push t f).err=0):(push t f).stack.length≤300:=by
 unfold push at h⊢
 split
 ·rename_i h1
  rw[if_pos h1]at h;exact absurd h (fail_err 4 (by decide) _)
 ·simp;omega
theorem args_kept(M:Mdl)(k:Int)(f:Flow):Kept f.stack.length f (args M k f):=want_kept _ _
theorem gen_kept(M:Mdl)(f:Flow):Kept f.stack.length f (gen M f).2:=by
 have h:=pop_kept f;unfold gen
 split
 ·exact h
 split
 ·exact(h.trans (fail_kept 9 _)).le h.len
 ·exact h
theorem done_kept(f:Flow):Kept f.stack.length f (done f):=by
 unfold done
 split
 ·exact Kept.refl f
 ·exact fail_kept _ _
structure Good(M:Mdl)(u:Unt):Prop where
 units:∀k,k<M.units.length→In64 (M.units.getD k default).result∧In64 (M.units.getD k default).takes
 boxes:∀k,k<M.boxes.length→In64 (M.boxes.getD k default).1
 locals:∀t∈u.locals,In64 t
 result:In64 u.result
 takes:In64 u.takes
 few:M.units.length≤30
 code:∀i∈u.code,instr M u i=0
theorem rng_eq{b:Bool}(h:rng b=0):b=true:=by
 unfold rng at h
 split at h
 ·assumption
 ·cases h
theorem unit_eq{M:Mdl}{i kind:Int}(h:isUnit M i kind=true):0≤i∧i<(M.units.length:Int)∧(M.units.getD i.toNat default).kind=kind:=by
 simp only[isUnit,JX,JV]at h;exact⟨h.1.1,h.1.2,h.2⟩
structure InsOk(M:Mdl)(u:Unt)(i:Ins):Prop where
 op:1≤i.op∧i.op≤32
 loc:i.op=3∨i.op=4→0≤i.a∧i.a<(u.locals.length:Int)
 jump:i.op=21∨i.op=22→0≤i.a∧i.a<(u.code.length:Int)
 call:i.op=23→isUnit M i.a 2=true
 start:i.op=29→isUnit M i.a 3=true
 box:i.op=26∨i.op=27→0≤i.a∧i.a<(M.boxes.length:Int)
theorem instr_ok{M:Mdl}{u:Unt}{i:Ins}(h:instr M u i=0):InsOk M u i:=by
 unfold instr at h
 by_cases h1:i.op=2
 ·exact⟨by omega,by omega,by omega,by omega,by omega,by omega⟩
 rw[if_neg h1]at h
 by_cases h2:i.op=3∨i.op=4
 ·rw[if_pos h2]at h;have:=rng_eq h;simp only[JX,JV]at this;exact⟨by omega,fun _=>this,by omega,by omega,by omega,by omega⟩
 rw[if_neg h2]at h
 by_cases h3:i.op=21∨i.op=22
 ·rw[if_pos h3]at h;have:=rng_eq h;simp only[JX,JV]at this;exact⟨by omega,by omega,fun _=>this,by omega,by omega,by omega⟩
 rw[if_neg h3]at h
 by_cases h4:i.op=23
 ·rw[if_pos h4]at h;exact⟨by omega,by omega,by omega,fun _=>rng_eq h,by omega,by omega⟩
 rw[if_neg h4]at h
 by_cases h5:i.op=29
 ·rw[if_pos h5]at h;exact⟨by omega,by omega,by omega,by omega,fun _=>rng_eq h,by omega⟩
 rw[if_neg h5]at h
 by_cases h6:i.op=26∨i.op=27
 ·rw[if_pos h6]at h;have:=rng_eq h;simp only[JX,JV]at this;exact⟨by omega,by omega,by omega,by omega,by omega,fun _=>this⟩
 rw[if_neg h6]at h
 by_cases h7:i.op<1∨32<i.op
 ·rw[if_pos h7]at h;cases h
 ·exact⟨by omega,by omega,by omega,by omega,by omega,by omega⟩
theorem getD_in{l:List Int}{k:Nat}(h:∀t∈l,In64 t):In64 (l.getD k 0):=by
 rw[Jd];rcases Nat.lt_or_ge k l.length with hk|hk
 ·rw[Je hk];exact h _ (List.getElem_mem _)
 ·rw[List.getElem?_eq_none hk];unfold In64;simp
theorem in1:In64 1:=by unfold In64;omega
theorem in2:In64 2:=by unfold In64;omega
structure Stp(f g:Flow):Prop where
 kept:Kept (f.stack.length+1) f g
 ok:g.err=0→f.stack.length≤300→g.stack.length≤300
theorem Stp.of{f g:Flow}(h:Kept f.stack.length f g):Stp f g:=⟨h.le (Nat.le_succ _),fun _ hl=>Nat.le_trans h.len hl⟩
theorem Stp.push{f g:Flow}(h:Kept f.stack.length f g)(t:Int)(ht:In64 t):Stp f (push t g):=
 ⟨(h.trans (push_kept t g ht)).le (Nat.succ_le_succ h.len),fun he _=>push_ok t g he⟩
theorem Kept.fail{f g:Flow}(h:Kept f.stack.length f g)(e:Int):Kept f.stack.length f (fail e g):=(h.trans (fail_kept e g)).le h.len
theorem Kept.ite{f:Flow}{c:Prop} [Decidable c]{a b:Flow}(ha:Kept f.stack.length f a)(hb:Kept f.stack.length f b):Kept f.stack.length f (if c then a else b):=by split<;>assumption
theorem Kept.want{f g:Flow}(h:Kept f.stack.length f g)(l:List Int):Kept f.stack.length f (want l g):=(h.trans (want_kept l g)).le h.len
theorem Kept.done{f g:Flow}(h:Kept f.stack.length f g):Kept f.stack.length f (done g):=(h.trans (done_kept g)).le h.len
theorem special_stp{M:Mdl}{u:Unt}(hg:Good M u){i:Ins}(hi:InsOk M u i)(f:Flow):Stp f (special M u i f).2:=by
 unfold special
 by_cases h1:i.op=23
 ·rw[if_pos h1];obtain⟨g1,g2,g3⟩:=unit_eq (hi.call h1);exact Stp.push (args_kept M _ f) _ (hg.units i.a.toNat (by omega)).1
 rw[if_neg h1]
 by_cases h2:i.op=29
 ·rw[if_pos h2];obtain⟨g1,g2,g3⟩:=unit_eq (hi.start h2);have:=hg.few;exact Stp.push (args_kept M _ f) _ (by unfold In64;omega)
 rw[if_neg h2]
 by_cases h3:i.op=24
 ·rw[if_pos h3];exact Stp.of (((Kept.refl f).fail 8|>.ite (Kept.refl f)).want _|>.done)
 rw[if_neg h3]
 by_cases h4:i.op=25
 ·rw[if_pos h4];exact Stp.of (((Kept.refl f).fail 8|>.ite (Kept.refl f)).done)
 rw[if_neg h4]
 by_cases h5:i.op=26
 ·rw[if_pos h5];exact Stp.of ((Kept.refl f).want _)
 rw[if_neg h5]
 by_cases h6:i.op=27
 ·rw[if_pos h6];have:=hi.box (.inr h6);exact Stp.push (Kept.refl f) _ (hg.boxes i.a.toNat (by omega))
 rw[if_neg h6]
 by_cases h7:i.op=28
 ·rw[if_pos h7];exact Stp.of ((pop_kept f).fail 9|>.ite (pop_kept f))
 rw[if_neg h7]
 by_cases h8:i.op=30
 ·rw[if_pos h8];have hk:=(pop_kept f).trans (gen_kept M (pop f).2);have hk':=hk.le (pop_kept f).len;have hu:∀k,(gen M (pop f).2).1=some k→0≤k∧k<(M.units.length:Int):=by
   unfold gen
   split
   ·intro k h;cases h
   split
   ·intro k h;cases h
   ·intro k h
    rename_i h2
    simp only[Option.some.injEq]at h;subst h;have h3:handle M (pop (pop f).2).1=true:=by simpa using h2
    simp only[handle,JX]at h3;obtain⟨q1,q2, -⟩:=unit_eq h3.2;exact⟨q1,q2⟩
  generalize gen M (pop f).2=G at *;obtain⟨o,g⟩:=G
  cases o with
  |none=>exact Stp.of hk'
  |some k=>
   have:=hu k rfl;exact Stp.push ((hk'.fail 9).ite hk') _ (hg.units k.toNat (by omega)).1
 rw[if_neg h8]
 by_cases h9:i.op=31
 ·rw[if_pos h9];exact Stp.push (((Kept.refl f).fail 8|>.ite (Kept.refl f)).want _) _ hg.takes
 rw[if_neg h9]
 by_cases h10:i.op=32
 ·rw[if_pos h10];exact Stp.push (gen_kept M f) _ in2
 rw[if_neg h10];exact Stp.of (Kept.refl f)
inductive StepIs(M:Mdl)(u:Unt)(i:Ins)(f:Flow):Bool×Flow→Prop
 |plain {b:Bool} {g:Flow}:i.op≠4→i.op≠21→i.op≠22→Stp f g→StepIs M u i f (b,g)
 |store {g:Flow}:i.op=4→Kept f.stack.length f g→StepIs M u i f (true,{g with has:=g.has.set i.a.toNat true})
 |jump:i.op=21→StepIs M u i f (false,to u.code.length i.a f)
 |els:i.op=22→StepIs M u i f (true,to u.code.length i.a (want [2] f))
theorem step_is{M:Mdl}{u:Unt}(hg:Good M u){i:Ins}(hi:InsOk M u i)(f:Flow):StepIs M u i f (step M u i f):=by
 unfold step
 by_cases h1:i.op=1
 ·rw[if_pos h1];exact .plain (by omega) (by omega) (by omega) (Stp.push (Kept.refl f) _ in1)
 rw[if_neg h1]
 by_cases h2:i.op=2
 ·rw[if_pos h2];exact .plain (by omega) (by omega) (by omega) (Stp.push (Kept.refl f) _ in2)
 rw[if_neg h2]
 by_cases h3:i.op=3
 ·rw[if_pos h3];exact .plain (by omega) (by omega) (by omega) (Stp.push (by split;exact Kept.refl f;exact(Kept.refl f).fail 11) _ (getD_in hg.locals))
 rw[if_neg h3]
 by_cases h4:i.op=4
 ·rw[if_pos h4];exact .store h4 ((Kept.refl f).want _)
 rw[if_neg h4]
 by_cases h5:i.op=5
 ·rw[if_pos h5];exact .plain (by omega) (by omega) (by omega) (Stp.of (pop_kept f))
 rw[if_neg h5]
 by_cases h6:i.op=6
 ·rw[if_pos h6];exact .plain (by omega) (by omega) (by omega) (Stp.push ((Kept.refl f).want _) _ in1)
 rw[if_neg h6]
 by_cases h7:i.op=7
 ·rw[if_pos h7];exact .plain (by omega) (by omega) (by omega) (Stp.push ((Kept.refl f).want _) _ in2)
 rw[if_neg h7]
 by_cases h8:8≤i.op∧i.op≤12
 ·rw[if_pos h8];exact .plain (by omega) (by omega) (by omega) (Stp.push ((Kept.refl f).want _) _ in1)
 rw[if_neg h8]
 by_cases h9:i.op=13∨i.op=14
 ·rw[if_pos h9];exact .plain (by omega) (by omega) (by omega) (Stp.push (((pop_kept f).fail 9|>.ite (pop_kept f)).want _) _ in2)
 rw[if_neg h9]
 by_cases h10:15≤i.op∧i.op≤18
 ·rw[if_pos h10];exact .plain (by omega) (by omega) (by omega) (Stp.push ((Kept.refl f).want _) _ in2)
 rw[if_neg h10]
 by_cases h11:i.op=19∨i.op=20
 ·rw[if_pos h11];exact .plain (by omega) (by omega) (by omega) (Stp.push ((Kept.refl f).want _) _ in2)
 rw[if_neg h11]
 by_cases h12:i.op=21
 ·rw[if_pos h12];exact .jump h12
 rw[if_neg h12]
 by_cases h13:i.op=22
 ·rw[if_pos h13];exact .els h13
 rw[if_neg h13];have:=special_stp hg hi f;generalize special M u i f=G at *;obtain⟨b,g⟩:=G;exact .plain h4 h12 h13 this
end Go.Proofs.YtjehflelkpacfaaGreat.Ver
