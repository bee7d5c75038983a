/- Strings, as lists of bytes. Of whatever program. -/
import Derived.Test.YtofckcabpchcmaaGreatDoorM06
import Derived.Laws.IdiomStrings
import Derived.Laws.Strings3
import Derived.Laws.Concat
import Derived.Laws.StructEq
import Derived.Maps.RangeRun
set_option linter.unusedVariables false
set_option linter.unusedSimpArgs false
set_option linter.unusedSectionVars false
set_option maxRecDepth 100000
namespace Go.Proofs.YtofckcabpchcmaaGreatDoor
section
open Go Go.RowKit
abbrev sv(l:List UInt8):Value:= .string ⟨l.toArray⟩
def xL(x:UInt8):List Value:=[.int .u8 (x.toNat:Int)]
instance:bH xL:=⟨fun _=>rfl,by decide,fun a u hu=>by simp[xL]at hu;subst hu;rfl⟩
theorem wA(l:List UInt8):(⟨l.toArray⟩:ByteArray).size=l.length:=by simp[ByteArray.size]
theorem XP(a b:List UInt8):((⟨a.toArray⟩:ByteArray)==⟨b.toArray⟩)=decide (a=b):=by
 have e:((⟨a.toArray⟩:ByteArray)==⟨b.toArray⟩)=(a.toArray==b.toArray):=rfl;rw[e,Bool.eq_iff_iff];simp
instance:cJ (List UInt8) where
 kd:= .string
 td:= .string
 kv:=sv
 BC h:=h.string
 same a b:=by simp only[Instr.sameNow,XP]
 zL hk em k w:=by
  rw[show(10000:Nat)=9999+1 from rfl];unfold Instr.checkKey;simp[run_underlying hk]
 stay k w:=by
  unfold Instr.keyThatStays;rw[show(10000:Nat)=9999+1 from rfl];simp[Instr.sameBits,XP]
section
variable{P:Program} [eT P]{Q:Exit→Act→World→Prop}{N:Nd}{E:Env}{L L':List Chunk}
variable{dst:Option Tmp}{ty:TypeId}{pos:String}{aft:Array Edge}{g:Option (Nat×Bool)}
variable{xT yT:TypeId}{x y:Operand}{a b:List UInt8}
theorem Still.WN(hx:ev E x=some (sv a))(hy:ev E y=some (sv b))(ha:a.length≤8388608)(hb:b.length≤8388608):Still P N ⟨dst, .binOp .add xT x y yT,ty,pos,aft,g⟩ E L (sv (a ++b)):=fun A w hs _=>by
 have h:=run_string_add_lists (P:=P) w a b (by omega) (by omega);simp only[execOp,hs.ev hx,hs.ev hy,eqGuard,binOp];simp[h]
theorem Still.aF8(hx:ev E x=some (sv a))(hy:ev E y=some (sv b)):Still P N ⟨dst, .binOp .eql xT x y yT,ty,pos,aft,g⟩ E L (.bool (decide (a=b))):=fun A w hs _=>by
 have e:(a==b)=decide (a=b):=by rw[Bool.eq_iff_iff];simp
 simp[execOp,hs.ev hx,hs.ev hy,eqGuard,binOp,Op.stringOp,e]
theorem Still.aFc(hx:ev E x=some (sv a))(hy:ev E y=some (sv b)):Still P N ⟨dst, .binOp .neq xT x y yT,ty,pos,aft,g⟩ E L (.bool (!decide (a=b))):=fun A w hs _=>by
 have e:(a==b)=decide (a=b):=by rw[Bool.eq_iff_iff];simp
 simp[execOp,hs.ev hx,hs.ev hy,eqGuard,binOp,Op.stringOp,e]
theorem Still.aFb{t:TypeId}{s' b':Nat}{z':List Value}(hx:ev E x=some (sv a))(ht:bB P t=some ⟨.string,s',b',z'⟩):Still P N ⟨dst, .call ⟨.builtin .len, #[x], #[t]⟩,ty,pos,aft,g⟩ E L (.int .i64 (a.length:Int)):=fun A w hs _=>by
 have h:=run_len_string (P:=P) w t ty ⟨a.toArray⟩ (cI ht).string;rw[wA]at h;simp only[execOp,resolve,invoke,builtin,Sem.run_bind,Sem.run_pure,Result.andThen_ok,List.map_toArray,List.map_cons,List.map_nil,hs.ev hx,h];rfl
theorem Still.sAt{s' b' i:Nat}{z':List Value}{k:IntKind}{j:Int}(hx:ev E x=some (sv a))(hy:ev E y=some (.int k j))(ht:bB P xT=some ⟨.string,s',b',z'⟩)(hj:j=(i:Int))(hi:i<a.length):Still P N ⟨dst, .index xT x y,ty,pos,aft,g⟩ E L (.int .u8 ((a.getD i 0).toNat:Int)):=fun A w hs _=>by
 subst hj;have h:=run_index_string (P:=P) w xT ⟨a.toArray⟩ k (i:Int) (cI ht).string;rw[dif_pos ⟨by omega,by rw[wA];omega⟩]at h;have e:((⟨a.toArray⟩:ByteArray)[((i:Int)).toNat]'(by rw[wA];omega))=a.getD i 0:=by
  rw[List.getD_eq_getElem?_getD,List.getElem?_eq_getElem hi];rfl
 rw[e]at h;simp only[execOp,hs.ev hx,hs.ev hy,Sem.run_bind,h,Result.andThen_ok,Sem.run_pure]
theorem Still.sTo{s' b' i:Nat}{z':List Value}{k:IntKind}{j:Int}(hx:ev E x=some (sv a))(hy:ev E y=some (.int k j))(ht:bB P xT=some ⟨.string,s',b',z'⟩)(hj:j=(i:Int))(hi:i≤a.length):Still P N ⟨dst, .slice xT x none (some y) none,ty,pos,aft,g⟩ E L (sv (a.take i)):=fun A w hs _=>by
 subst hj;have h:=run_slice_string_h (P:=P) w xT ⟨a.toArray⟩ (cI ht).string k (i:Int) (by omega) (by rw[wA];omega);rw[ByteArray.extract_mk,Int.toNat_natCast,Nat.sub_zero,List.drop_zero]at h;have h2:=run_sliceAt_string (P:=P) w xT (sv a) none (some (.int k (i:Int))) none (cI ht).string;rw[h]at h2;simp only[execOp,hs.ev hx,hs.ev hy,Option.map_none,Option.map_some,Sem.run_bind,h2,Result.andThen_ok,Sem.run_pure]
end
theorem Js{A:Prop}(h:A:=by(first|exact Still.aF8 rfl rfl|exact Still.aFc rfl rfl|exact Still.aFb rfl rfl|exact Still.WN rfl rfl (by omega) (by omega))):A:=h
theorem Jx{A:Prop}(h:A:=by(repeat(first|exact aR.nil|exact Take.head|(refine Take.aAF ?_;(focus (first|rfl|(simp;done)|(simp;omega)|omega|(simp[*];done))))|(refine Take.Z9 ?_ ?_;(focus (first|rfl|(simp;done)|(simp;omega)|omega|(simp[*];done)));(focus (first|rfl|(simp;done)|(simp;omega)|omega|(simp[*];done))))|apply Take.tail|apply aR.cons))):A:=h
theorem Jr{A:Prop}(h:A:=by(first|(apply bY.arr;focus ((repeat(first|exact Take.head|apply Take.tail));done))|(apply bY.rd;focus ((repeat(first|exact Take.head|apply Take.tail));done))|(apply bY.vL;focus ((repeat(first|exact Take.head|apply Take.tail));done))|(apply bY.x3;focus ((repeat(first|exact Take.head|apply Take.tail));done))|(apply bY.x4;(focus ((repeat(first|exact Take.head|apply Take.tail));done));(focus (first|assumption|omega)))|(apply bY.x6;(focus ((repeat(first|exact Take.head|apply Take.tail));done));(focus (first|assumption|omega)))|(apply bY.aO;(focus assumption);(focus ((repeat(first|exact Take.head|apply Take.tail));done))))):A:=h
theorem Jv{A:Prop}(h:A:=by(first|exact rfl|(refine congrArg (Value.int _) ?_;omega)|(refine congrArg (Value.int _) ?_;dsimp only;omega))):A:=h
theorem Ju{A:Prop}(h:A:=by(repeat(first|exact Sub.nil|(apply Sub.cons;(focus (exact rfl)))|(apply Sub.cons';(focus (exact rfl));(focus (first|exact rfl|(refine congrArg (Value.int _) ?_;omega)|(refine congrArg (Value.int _) ?_;dsimp only;omega))))))):A:=h
theorem Jn{A G:Prop}(k:G)(h:Bx G→A:=by intro hk;(try conv=>rhs;simp only[List.cons_append,List.nil_append]);exact hk.out):A:=h ⟨k⟩
theorem Jc{A G:Prop}(k:G)(h:Bx G→A:=by intro hk;(first|(apply aE.op;exact rfl)|refine aE.eE (h:=?_));exact hk.out):A:=h ⟨k⟩
theorem Jg{A G:Prop}(k:G)(h:Bx G→A:=by intro hk;(first|(apply aE.op;exact rfl;refine aB.bP (h:=Js) (k:=?_))|(refine aE.eE (h:=?_);refine aB.bP (h:=Js) (k:=?_))|refine aN.bP (h:=Js) (k:=?_)|refine aN.eE (h:=Js) (k:=?_));exact hk.out):A:=h ⟨k⟩
theorem Jw{A G:Prop}(k:G)(h:Bx G→A:=by intro hk;(first|refine aB.bP (k:=?_)|refine aB.store_ (k:=?_));exact hk.out):A:=h ⟨k⟩
theorem Jb{A G:Prop}(k:G)(h:Bx G→A:=by intro hk;(first|refine aB.xI (k:=?_)|refine aB.IB (k:=?_)|refine aB.IF (k:=?_)|refine aB.IE (k:=?_));exact hk.out):A:=h ⟨k⟩
theorem Ja{A G:Prop}(k:G)(h:Bx G→A:=by intro hk;(first|refine aB.jN (k:=?_)|refine aB.IU (k:=?_)|refine aB.ER (k:=?_)|refine aB.IV (k:=?_)|refine aB.cutA_ (k:=?_)|refine aB.cutR_ (k:=?_));exact hk.out):A:=h ⟨k⟩
section
variable{P:Program} [eT P]{ops:Array Oper}{Q:Exit→Act→World→Prop}{N:Nd}{e:Nat}{LT:List Chunk}{fuel:Nat}{listed:Array Bool}{E:Env}{L L' F:List Chunk}
variable{d0 d:Tmp}{op:Op}{dst:Option Tmp}{ty:TypeId}{pos:String}{aft:Array Edge}{g:Option (Nat×Bool)}
theorem JR{d:Tmp}{op:Op}{ty:TypeId}{pos:String}{aft:Array Edge}{v:Value}(i:Nat)(h:RunT P ops Q N e LT fuel (listed.setIfInBounds i true) ((d,v)::E) L)(hi:ops[i]?=some ⟨some d,op,ty,pos,aft,none⟩:=by exact rfl)(hns:Region.noSelect ops=true:=by kernel_rfl)(hf:Region.free .any ops listed i=true:=by kernel_rfl)(hr:(Region.ready .any ops listed).contains i=true:=by kernel_rfl)(hcl:vG .any ops listed=true:=by kernel_rfl)(hw:p8 .any ops i ops.size e=true:=by kernel_rfl)(hQ:aS Q:=by((repeat(first|exact aS.body|apply aS.pT|apply aS.p6|apply aS.block));first|done|fail))(hd:Nat.blt d N.n=true:=by exact rfl)(ht:aR LT L F:=by((repeat(first|exact aR.nil|exact Take.head|apply Take.tail|apply aR.cons));first|done|fail))(hy:Still P N ⟨some d,op,ty,pos,aft,none⟩ E LT v:=by exact oE):RunT P ops Q N e LT (fuel+1) listed E L:=RunT.s4 (i:=i) (hi:=hi) (hns:=hns) (hf:=hf) (hr:=hr) (hcl:=hcl) (hw:=hw) (hQ:=hQ) (hd:=hd) (ht:=ht) (hy:=hy) (h:=h)
theorem JN{d:Tmp}{op:Op}{ty:TypeId}{pos:String}{aft:Array Edge}{v:Value}(i:Nat)(h:RunT P ops Q N e LT fuel (listed.setIfInBounds i true) ((d,v)::E) L)(hi:ops[i]?=some ⟨some d,op,ty,pos,aft,none⟩:=by exact rfl)(hns:Region.noSelect ops=true:=by kernel_rfl)(hf:Region.free .any ops listed i=true:=by kernel_rfl)(hr:(Region.ready .any ops listed).contains i=true:=by kernel_rfl)(he:Nat.ble ops.size e=true:=by kernel_rfl)(hsz:Nat.beq listed.size ops.size=true:=by kernel_rfl)(hQ:aS Q:=by((repeat(first|exact aS.body|apply aS.pT|apply aS.p6|apply aS.block));first|done|fail))(hd:Nat.blt d N.n=true:=by exact rfl)(ht:aR LT L F:=by((repeat(first|exact aR.nil|exact Take.head|apply Take.tail|apply aR.cons));first|done|fail))(hy:Still P N ⟨some d,op,ty,pos,aft,none⟩ E LT v:=by exact oE):RunT P ops Q N e LT (fuel+1) listed E L:=RunT.NR (i:=i) (hi:=hi) (hns:=hns) (hf:=hf) (hr:=hr) (he:=he) (hsz:=hsz) (hQ:=hQ) (hd:=hd) (ht:=ht) (hy:=hy) (h:=h)
theorem JT{o:Oper}(i:Nat)(h:aB P Q N o E L (fun E' L'=>Good e LT (listed.setIfInBounds i true) L'∧RunT P ops Q N e LT fuel (listed.setIfInBounds i true) E' L'))(hr:Region.ready .any ops listed=[i]:=by kernel_rfl)(ho:ops[i]?=some o:=by exact rfl)(hg:o.guard=none:=by exact rfl):RunT P ops Q N e LT (fuel+1) listed E L:=RunT.uD (i:=i) (hr:=hr) (ho:=ho) (hg:=hg) (h:=h)
theorem JK{σ:Type}{dst:Option Tmp}{x:Operand}{args:List Operand}{eI:Array TypeId}{ty:TypeId}{pos:String}{aft:Array Edge}{g:Option (Nat×Bool)}{f:FuncId}{vs:List Value}{R pre F:List Chunk}{post:σ→Prop}{val:σ→Value}{mem:σ→List Chunk}{C:Env→List Chunk→Prop}(spec:Fn P f vs.toArray R pre post val mem)(k:∀s,post s→C (cP dst (val s) E) (mem s ++F))(hx:ev E x=some (.func (.func f) #[] #[]):=by exact rfl)(hv:gD E args vs:=by exact n4)(hc:fW P f=true:=by kernel_rfl)(hd:cR N dst=true:=by exact rfl)(t:aR pre L F:=by((repeat(first|exact aR.nil|exact Take.head|apply Take.tail|apply aR.cons));first|done|fail))(r:∀w,Reads w R F:=by intro w;exact DF):aB P Q N ⟨dst, .call ⟨.value x,args.toArray,eI⟩,ty,pos,aft,g⟩ E L C:=aB.bA (hx:=hx) (hv:=hv) (hc:=hc) (hd:=hd) (spec:=spec) (t:=t) (r:=r) (k:=k)
theorem JL{σ:Type}{dst:Option Tmp}{x:Operand}{args:List Operand}{eI:Array TypeId}{ty:TypeId}{pos:String}{aft:Array Edge}{g:Option (Nat×Bool)}{f:FuncId}{vs:List Value}{cap:Array Value}{R pre F:List Chunk}{post:σ→Prop}{val:σ→Value}{mem:σ→List Chunk}{C:Env→List Chunk→Prop}(spec:Fn P f (vs.toArray ++cap) R pre post val mem)(k:∀s,post s→C (cP dst (val s) E) (mem s ++F))(hx:ev E x=some (.func (.func f) #[] cap):=by exact rfl)(hv:gD E args vs:=by exact n4)(hc:fW P f=true:=by kernel_rfl)(hd:cR N dst=true:=by exact rfl)(t:aR pre L F:=by((repeat(first|exact aR.nil|exact Take.head|apply Take.tail|apply aR.cons));first|done|fail))(r:∀w,Reads w R F:=by intro w;exact DF):aB P Q N ⟨dst, .call ⟨.value x,args.toArray,eI⟩,ty,pos,aft,g⟩ E L C:=aB.QM (hx:=hx) (hv:=hv) (hc:=hc) (hd:=hd) (spec:=spec) (t:=t) (r:=r) (k:=k)
end
theorem Jo{A G:Prop}(k:G)(h:Bx G→A:=by(intro hk;(first|(apply aE.op;exact rfl;(first|refine aB.bP (k:=?_)|refine aB.store_ (k:=?_)))|apply aG.kH|apply aG.region|apply aG.block|apply aG.exit|apply aG.ret|apply aG.skip|apply aG.label|apply aE.nil|apply aN.nil|apply aU.nil|apply End.kH|apply End.KY|apply End.K0|apply End.K5|apply End.NU|apply End.NV|apply End.L7|apply End.L8|refine End.KZ (h:=?_)|refine aG.IQ (h1:=?_)|refine aG.IP (h1:=?_)|refine aG.NP (h:=?_)|refine aG.MU (h:=?_)|refine aN.bP (k:=?_)|refine aN.eE (k:=?_)|refine aN.rQ (k:=?_)|refine aN.s7 (k:=?_)|refine aU.bP (k:=?_)|refine aU.eE (k:=?_)|refine aU.rQ (k:=?_)|refine aU.s7 (k:=?_)|(refine aE.eE (h:=?_);(first|refine aB.bP (k:=?_)|refine aB.store_ (k:=?_)))|refine aE.rQ (k:=?_)|refine aE.s7 (k:=?_)|refine aE.rM (k:=?_)|refine aE.rL (k:=?_)|refine aN.rM (k:=?_)|refine aN.rL (k:=?_)|refine aU.rM (k:=?_)|refine aU.rL (k:=?_));repeat(first|(apply aE.op;exact rfl;(first|refine aB.bP (k:=?_)|refine aB.store_ (k:=?_)))|apply aG.kH|apply aG.region|apply aG.block|apply aG.exit|apply aG.ret|apply aG.skip|apply aG.label|apply aE.nil|apply aN.nil|apply aU.nil|apply End.kH|apply End.KY|apply End.K0|apply End.K5|apply End.NU|apply End.NV|apply End.L7|apply End.L8|refine End.KZ (h:=?_)|refine aG.IQ (h1:=?_)|refine aG.IP (h1:=?_)|refine aG.NP (h:=?_)|refine aG.MU (h:=?_)|refine aN.bP (k:=?_)|refine aN.eE (k:=?_)|refine aN.rQ (k:=?_)|refine aN.s7 (k:=?_)|refine aU.bP (k:=?_)|refine aU.eE (k:=?_)|refine aU.rQ (k:=?_)|refine aU.s7 (k:=?_)|(refine aE.eE (h:=?_);(first|refine aB.bP (k:=?_)|refine aB.store_ (k:=?_)))|refine aE.rQ (k:=?_)|refine aE.s7 (k:=?_)|refine aE.rM (k:=?_)|refine aE.rL (k:=?_)|refine aN.rM (k:=?_)|refine aN.rL (k:=?_)|refine aU.rM (k:=?_)|refine aU.rL (k:=?_)));exact hk.out):A:=h ⟨k⟩
theorem JB{A G:Prop}(k:G)(h:Bx G→A:=by intro hk;(first|(apply aE.op;exact rfl;(first|refine aB.xI (k:=?_)|refine aB.IB (k:=?_)|refine aB.IF (k:=?_)|refine aB.IE (k:=?_)))|(refine aE.eE (h:=?_);(first|refine aB.xI (k:=?_)|refine aB.IB (k:=?_)|refine aB.IF (k:=?_)|refine aB.IE (k:=?_))));exact hk.out):A:=h ⟨k⟩
theorem JA{A G:Prop}(k:G)(h:Bx G→A:=by intro hk;(first|(apply aE.op;exact rfl;(first|refine aB.jN (k:=?_)|refine aB.IU (k:=?_)|refine aB.ER (k:=?_)|refine aB.IV (k:=?_)|refine aB.cutA_ (k:=?_)|refine aB.cutR_ (k:=?_)))|(refine aE.eE (h:=?_);(first|refine aB.jN (k:=?_)|refine aB.IU (k:=?_)|refine aB.ER (k:=?_)|refine aB.IV (k:=?_)|refine aB.cutA_ (k:=?_)|refine aB.cutR_ (k:=?_))));exact hk.out):A:=h ⟨k⟩
theorem Jm{A:Prop}(h:A:=by exact Reads.md tk (Reads.any tk (by simp) .nil)):A:=h
theorem Jz{A G:Prop}(k:G)(h:Bx G→A:=by intro hk;(first|(refine JB ?_;exact hk.out)|(refine JA ?_;exact hk.out))):A:=h ⟨k⟩
theorem Jy{A G:Prop}(k:G)(h:Bx G→A:=by intro hk;(first|(refine Jo ?_;exact hk.out)|(refine JB ?_;exact hk.out)|(refine JA ?_;exact hk.out))):A:=h ⟨k⟩
theorem JE{P:Program}{f:FuncId}{fn:Func}{c:Code}{σ:Type}{N:Nat}{R pre:List Chunk}{post:σ→Prop}{val:σ→Value}{mem:σ→List Chunk}(args:List Value)(hf:P.funcs[f]?=some fn)(hN:fn.ntmps=N)(h:∀w S,aG P (bodyPost P fn (eJ post val mem w S)) ⟨N,[]⟩ c (first 0 args) (aO w S::(R ++pre)))(hb:fn.body=some c:=by exact rfl)(hA:Nat.ble args.length N=true:=by exact rfl)(hR:∀c∈R,c.bE=false:=by simp[eO,mH]):Fn P f args.toArray R pre post val mem:=Fn.enter hf hb N hN hA hR h
theorem JQ{A G S:Prop}(spec:S)(k:G)(h:S→Bx G→A:=by intro sp hk;(first|(apply aE.op;exact rfl)|refine aE.eE (h:=?_));exact aB.bA (spec:=sp) (k:=hk.out)):A:=h spec ⟨k⟩
theorem JM{A G S:Prop}(spec:S)(k:G)(h:S→Bx G→A:=by intro sp hk;(first|(apply aE.op;exact rfl)|refine aE.eE (h:=?_));exact aB.bA (spec:=sp) (r:=fun w=>Jm) (k:=hk.out)):A:=h spec ⟨k⟩
theorem JH{A G S:Prop}(spec:S)(k:G)(h:S→Bx G→A:=by intro sp hk;(first|(apply aE.op;exact rfl)|refine aE.eE (h:=?_));exact aB.bA (spec:=sp) (t:=Jx) (k:=hk.out)):A:=h spec ⟨k⟩
theorem JG{e:Nat}{LT:List Chunk}{listed:Array Bool}{L:List Chunk}{B:Prop}(k:B)(h:Good e LT listed L:=by exact xU):Good e LT listed L∧B:=⟨h,k⟩
abbrev Jd:= @List.getD_eq_getElem?_getD
abbrev Je:= @List.getElem?_eq_getElem
abbrev Jf:= @List.length_map
abbrev Ji:= @List.length_set
abbrev Jj:= @Int.toNat_natCast
abbrev Jk:= @List.nil_append
abbrev Jl:= @List.length_append
abbrev oJ:= @Int.toNat_of_nonneg
abbrev Jp:= @List.take_succ_eq_append_getElem
abbrev Jq:= @List.map_append
abbrev Jt:= @List.append_assoc
abbrev JI:= @Int.eq_ofNat_of_zero_le
abbrev JP:= @List.length_pos_iff
abbrev JS:= @List.getElem?_set_self
abbrev JU:= @List.getElem?_map
abbrev JV:= @decide_eq_true_eq
abbrev JW:= @List.length_cons
abbrev JX:= @Bool.and_eq_true
abbrev JY:= @decide_eq_false_iff_not
abbrev JZ:= @Option.getD_some
abbrev bF:= @Option.bind_eq_some_iff
abbrev eR:= @Option.bind_some
abbrev pA:= @Option.map_some
abbrev cQ:= @Option.map_eq_some_iff
abbrev bQ:= @Nat.zero_le
abbrev D6:= @Option.bind_none
abbrev yY:= @Option.map_none
abbrev bS:= @Nat.le_refl
abbrev dF:= @List.mem_append
abbrev dY:= @List.mem_singleton
abbrev cY:= @List.mem_cons
abbrev gE:= @List.length_singleton
abbrev dP:= @Nat.le_trans
abbrev iS:= @List.drop_of_length_le
abbrev eS:= @List.append_nil
abbrev gZ:= @List.mem_cons_of_mem
abbrev gF:= @List.mem_cons_self
abbrev fM:= @List.length_drop
abbrev kN:= @List.take_of_length_le
abbrev lK:= @Option.isSome_iff_exists
abbrev hZ:= @List.getElem_mem
abbrev eY:= @List.mem_map
abbrev fI:= @List.map_cons
abbrev kO:= @List.mem_of_getElem?
abbrev kY:= @List.mem_append_left
abbrev jM:= @List.length_take
abbrev mQ:= @List.mem_append_right
abbrev qC:= @List.eq_nil_of_length_eq_zero
abbrev mR:= @List.mem_map_of_mem
abbrev nS:= @List.length_filter_le
abbrev kZ:= @List.length_nil
abbrev l0:= @List.filter_cons
abbrev rD:= @List.getElem?_append_right
abbrev rE:= @List.getElem?_eq_some_iff
abbrev pB:= @List.perm_append_comm
abbrev mA:= @List.mem_filter
abbrev rF:= @Bool.eq_false_or_eq_true
abbrev pC:= @List.getElem_of_mem
abbrev tD:= @List.getElem?_append_left
abbrev nT:= @List.range_succ
abbrev qD:= @List.filter_append
abbrev pD:= @List.all_eq_true
abbrev pE:= @List.ext_getElem
abbrev pF:= @List.take_length
abbrev qE:= @List.flatMap_cons
abbrev m9:= @List.map_nil
abbrev qF:= @List.mem_flatMap
abbrev r8:= @List.flatMap_append
abbrev r9:= @List.nodup_append
abbrev wY:= @Nat.lt_succ_iff_lt_or_eq
abbrev tE:= @Option.some.injEq
abbrev sA:= @Bool.eq_iff_iff
abbrev yX:= @Classical.byContradiction
abbrev sB:= @Option.some.inj
abbrev qG:= @List.map_map
abbrev sC:= @List.mem_range
abbrev BP:= @List.perm_append_comm_assoc
abbrev D7:= @List.findIdx?_eq_some_iff_getElem
abbrev BQ:= @Int.fdiv_eq_ediv_of_nonneg
abbrev uY:= @List.any_eq_true
abbrev yZ:= @List.getElem?_eq_none
abbrev y6:= @List.take_append_drop
abbrev BR:= @List.mem_or_eq_of_mem_set
abbrev sD:= @Nat.zero_add
abbrev wZ:= @Decidable.not_not
abbrev w7:= @Function.comp_def
abbrev w8:= @List.getElem?_set
abbrev D8:= @Array.getElem?_setIfInBounds
abbrev w9:= @List.cons_append
abbrev xA:= @List.getElem_set
abbrev xB:= @List.perm_middle
abbrev sE:= @Nat.le_succ
abbrev y7:= @Nat.lt_of_lt_of_le
abbrev xC:= @Bool.or_eq_true
abbrev xD:= @List.filter_map
abbrev xE:= @Nat.not_lt_zero
abbrev D9:= @Int.tdiv_eq_ediv_of_nonneg
abbrev uZ:= @Nat.add_assoc
abbrev u7:= @Prod.mk.injEq
abbrev BS:= @List.forall_mem_cons
abbrev EA:= @List.mem_of_find?_eq_some
abbrev BU:= @List.takeWhile_cons
abbrev xF:= @Bool.true_and
abbrev BV:= @Bool.false_eq_true
abbrev y8:= @List.find?_cons
abbrev zA:= @List.foldl_cons
abbrev BW:= @List.getElem?_take
abbrev zB:= @List.nodup_cons
theorem aA{A:Prop}(h:A:=by omega):A:=h
theorem aV{A:Prop}(h:A:=by exact rfl):A:=h
theorem b7{A:Prop}(h:A:=by kernel_rfl):A:=h
theorem aK{A:Prop}(h:A:=by decide):A:=h
theorem aW{A:Prop}(h:A:=by simp):A:=h
theorem a7{α:Type}(b:α):∃x,x=b:=⟨_,rfl⟩
theorem aD{A G:Prop}(k:G)(h:Bx G→A:=by intro hk;refine Jn ?_;(repeat(refine Jy ?_));exact hk.out):A:=h ⟨k⟩
theorem a8{A G:Prop}(k:G)(h:Bx G→A:=by intro hk;refine Jn ?_;(repeat(refine Fy ?_));exact hk.out):A:=h ⟨k⟩
theorem aI{A G:Prop}(k:G)(h:Bx G→A:=by intro hk;refine Jn ?_;(repeat(refine Fm ?_));exact hk.out):A:=h ⟨k⟩
theorem lE{A G:Prop}(k:G)(h:Bx G→A:=by intro hk;refine Jn ?_;(repeat(refine Fz ?_));exact hk.out):A:=h ⟨k⟩
theorem n7{A G:Prop}(k:G)(h:Bx G→A:=by intro hk;refine Jn ?_;(repeat(refine Fp ?_));exact hk.out):A:=h ⟨k⟩
theorem dV{A S:Prop}{σ:Type}{p G:σ→Prop}(spec:S)(k:∀s,p s→G s)(h:S→Bx (∀s,p s→G s)→A:=by intro sp hk;(first|(apply aE.op;exact rfl)|refine aE.eE (h:=?_));refine aB.bA (spec:=sp) (k:=?_);intro s hs;refine Jn ?_;exact hk.out s hs):A:=h spec ⟨k⟩
theorem iN{A S:Prop}{σ:Type}{p G:σ→Prop}(spec:S)(k:∀s,p s→G s)(h:S→Bx (∀s,p s→G s)→A:=by intro sp hk;(first|(apply aE.op;exact rfl)|refine aE.eE (h:=?_));refine aB.bA (spec:=sp) (k:=?_);intro s hs;refine Jn ?_;(repeat(refine Jy ?_));exact hk.out s hs):A:=h spec ⟨k⟩
theorem tT{A S:Prop}{σ:Type}{p G:σ→Prop}(spec:S)(k:∀s,p s→G s)(h:S→Bx (∀s,p s→G s)→A:=by intro sp hk;(first|(apply aE.op;exact rfl)|refine aE.eE (h:=?_));refine aB.bA (spec:=sp) (k:=?_);intro s hs;refine Jn ?_;(repeat(refine Fy ?_));exact hk.out s hs):A:=h spec ⟨k⟩
theorem bU{A S:Prop}{σ:Type}{p G:σ→Prop}(spec:S)(k:∀s,p s→G s)(h:S→Bx (∀s,p s→G s)→A:=by intro sp hk;(first|(apply aE.op;exact rfl)|refine aE.eE (h:=?_));refine aB.bA (spec:=sp) (r:=fun w=>qV) (k:=?_);intro s hs;refine Jn ?_;exact hk.out s hs):A:=h spec ⟨k⟩
theorem dD{A S:Prop}{σ:Type}{p G:σ→Prop}(spec:S)(k:∀s,p s→G s)(h:S→Bx (∀s,p s→G s)→A:=by intro sp hk;(first|(apply aE.op;exact rfl)|refine aE.eE (h:=?_));refine aB.bA (spec:=sp) (r:=fun w=>qV) (k:=?_);intro s hs;refine Jn ?_;(repeat(refine Fm ?_));exact hk.out s hs):A:=h spec ⟨k⟩
theorem oO{A S:Prop}{σ:Type}{p G:σ→Prop}(spec:S)(k:∀s,p s→G s)(h:S→Bx (∀s,p s→G s)→A:=by intro sp hk;(first|(apply aE.op;exact rfl)|refine aE.eE (h:=?_));refine aB.bA (spec:=sp) (r:=fun w=>qV) (k:=?_);intro s hs;refine Jn ?_;(repeat(refine Fy ?_));exact hk.out s hs):A:=h spec ⟨k⟩
theorem KL{A S:Prop}{σ:Type}{p G:σ→Prop}(spec:S)(k:∀s,p s→G s)(h:S→Bx (∀s,p s→G s)→A:=by intro sp hk;(first|(apply aE.op;exact rfl)|refine aE.eE (h:=?_));refine aB.bA (spec:=sp) (r:=fun w=>Jm) (k:=?_);intro s hs;refine Jn ?_;exact hk.out s hs):A:=h spec ⟨k⟩
theorem kD{A S:Prop}{σ:Type}{p G:σ→Prop}(spec:S)(k:∀s,p s→G s)(h:S→Bx (∀s,p s→G s)→A:=by intro sp hk;(first|(apply aE.op;exact rfl)|refine aE.eE (h:=?_));refine aB.bA (spec:=sp) (r:=fun w=>Jm) (k:=?_);intro s hs;refine Jn ?_;(repeat(refine Jy ?_));exact hk.out s hs):A:=h spec ⟨k⟩
theorem oP{A S:Prop}{σ:Type}{p G:σ→Prop}(spec:S)(k:∀s,p s→G s)(h:S→Bx (∀s,p s→G s)→A:=by intro sp hk;(first|(apply aE.op;exact rfl)|refine aE.eE (h:=?_));refine aB.bA (spec:=sp) (t:=Jx) (k:=?_);intro s hs;refine Jn ?_;exact hk.out s hs):A:=h spec ⟨k⟩
theorem eM{A S:Prop}{σ:Type}{p G:σ→Prop}(spec:S)(k:∀s,p s→G s)(h:S→Bx (∀s,p s→G s)→A:=by intro sp hk;(first|(apply aE.op;exact rfl)|refine aE.eE (h:=?_));refine aB.bA (spec:=sp) (t:=Jx) (k:=?_);intro s hs;refine Jn ?_;(repeat(refine Jy ?_));exact hk.out s hs):A:=h spec ⟨k⟩
theorem oQ{A G T:Prop}(spec:T)(k:G)(h:T→Bx G→A:=by intro sp hk;apply aE.op;exact rfl;refine aB.T4 sp ?_ hk.out;intro hq e y;refine PO ?_;refine PX (e,y) ?_;simp only[hρ,hq,Option.bind_none,Option.map_none]):A:=h spec ⟨k⟩
theorem dQ{A G T:Prop}(spec:T)(k:G)(h:T→Bx G→A:=by intro sp hk;(first|(apply aE.op;exact rfl)|refine aE.eE (h:=?_));refine aB.pf sp ?_ hk.out;intro hq e y;refine PO ?_;refine PX (e,y) ?_;simp only[hρ,hq,Option.bind_none,Option.map_none]):A:=h spec ⟨k⟩
theorem bT{A B G:Prop}(k:B→G)(h:Bx (B→G)→A:=by intro hk;simp only[hi,Option.bind_some,Option.map_some,id]at hρ;refine Jn ?_;(repeat(refine Fy ?_));exact hk.out hρ):A:=h ⟨k⟩
theorem kC{A B G:Prop}(k:B→G)(h:Bx (B→G)→A:=by intro hk;simp only[hi,Option.bind_some,Option.map_some,id]at hρ;refine Jn ?_;exact hk.out hρ):A:=h ⟨k⟩
section
variable{P:Program} [eT P]{ops:Array Oper}{Q:Exit→Act→World→Prop}{N:Nd}{e:Nat}{LT:List Chunk}{fuel:Nat}{listed:Array Bool}{E:Env}{L L' F:List Chunk}
variable{d0 d:Tmp}{op:Op}{dst:Option Tmp}{ty:TypeId}{pos:String}{aft:Array Edge}{g:Option (Nat×Bool)}
theorem cL{N:Nd}{E:Env}{L F:List Chunk}{σ:Type}{fn:Func}{post:σ→Prop}{val:σ→Value}{mem:σ→List Chunk}{w0:World}{S:Nat→Prop}{t:Tmp}{v:Value}(x:σ)(hp:post x)(hr:fn.results= #[.tmp t]:=by exact rfl)(hv:look E t=Option.some v:=by exact rfl)(he:v=val x:=by(first|exact rfl|(refine congrArg (Value.int _) ?_;omega)|(refine congrArg (Value.int _) ?_;dsimp only;omega)))(hx:∀c∈mem x,c.bE=true:=by(simp[iL,dU,iB,gU]))(ht:aR (aO w0 S::mem x) L F:=by((repeat(first|exact aR.nil|exact Take.head|apply Take.tail|apply aR.cons));first|done|fail))(hD:N.ds=[]:=by exact rfl):End (bodyPost P fn (eJ post val mem w0 S)) N .ret E L:=End.aX (x:=x) (hr:=hr) (hv:=hv) (he:=he) (hp:=hp) (hx:=hx) (ht:=ht) (hD:=hD)
theorem fZ{N:Nd}{E:Env}{L F:List Chunk}{σ:Type}{fn:Func}{post:σ→Prop}{val:σ→Value}{mem:σ→List Chunk}{w0:World}{S:Nat→Prop}{t:Tmp}{v:Value}(x:σ)(hr:fn.results= #[.tmp t]:=by exact rfl)(hv:look E t=Option.some v:=by exact rfl)(he:v=val x:=by(first|exact rfl|(refine congrArg (Value.int _) ?_;omega)|(refine congrArg (Value.int _) ?_;dsimp only;omega)))(hp:post x:=by trivial)(hx:∀c∈mem x,c.bE=true:=by(simp[iL,dU,iB,gU]))(ht:aR (aO w0 S::mem x) L F:=by((repeat(first|exact aR.nil|exact Take.head|apply Take.tail|apply aR.cons));first|done|fail))(hD:N.ds=[]:=by exact rfl):End (bodyPost P fn (eJ post val mem w0 S)) N .ret E L:=End.aX (x:=x) (hr:=hr) (hv:=hv) (he:=he) (hp:=hp) (hx:=hx) (ht:=ht) (hD:=hD)
theorem KH{N:Nd}{E:Env}{L F:List Chunk}{σ:Type}{fn:Func}{post:σ→Prop}{val:σ→Value}{mem:σ→List Chunk}{w0:World}{S:Nat→Prop}{t u:Tmp}{v v':Value}(x:σ)(hp:post x)(hr:fn.results= #[.tmp t, .tmp u]:=by exact rfl)(hv:look E t=Option.some v:=by exact rfl)(hv':look E u=Option.some v':=by exact rfl)(he:val x= .tuple #[v,v']:=by(first|exact rfl|(refine congrArg (Value.int _) ?_;omega)|(refine congrArg (Value.int _) ?_;dsimp only;omega)))(hx:∀c∈mem x,c.bE=true:=by(simp[iL,dU,iB,gU]))(ht:aR (aO w0 S::mem x) L F:=by((repeat(first|exact aR.nil|exact Take.head|apply Take.tail|apply aR.cons));first|done|fail))(hD:N.ds=[]:=by exact rfl):End (bodyPost P fn (eJ post val mem w0 S)) N .ret E L:=End.oL (x:=x) (hr:=hr) (hv:=hv) (hv':=hv') (he:=he) (hp:=hp) (hx:=hx) (ht:=ht) (hD:=hD)
theorem zQ{N:Nd}{E:Env}{L F:List Chunk}{L':List Chunk}{σ:Type}{fn:Func}{post:σ→Prop}{val:σ→Value}{mem:σ→List Chunk}{w0:World}{S:Nat→Prop}{t:Tmp}{ty bt:TypeId}{b s' b':Nat}{fs:List (Nat×TypeId)}{z' cs:List Value}(x:σ)(hp:post x)(hr:fn.results= #[.cell t ty]:=by exact rfl)(hv:look E t=Option.some (.pointer (Option.some ⟨b,0,none⟩)):=by exact rfl)(ht:bB P ty=Option.some ⟨.struct fs,s',b',z'⟩:=by exact rfl)(hm:Take (aF b cs bt) L L':=by((repeat(first|exact Take.head|apply Take.tail));first|done|fail))(hl:cs.length=s':=by exact rfl)(he:val x= .agg cs.toArray:=by(first|exact rfl|(refine congrArg (Value.int _) ?_;omega)|(refine congrArg (Value.int _) ?_;dsimp only;omega)))(hx:∀c∈mem x,c.bE=true:=by(simp[iL,dU,iB,gU]))(hF:aR (aO w0 S::mem x) L F:=by((repeat(first|exact aR.nil|exact Take.head|apply Take.tail|apply aR.cons));first|done|fail))(hD:N.ds=[]:=by exact rfl):End (bodyPost P fn (eJ post val mem w0 S)) N .ret E L:=End.fX (x:=x) (hr:=hr) (hv:=hv) (ht:=ht) (hm:=hm) (hl:=hl) (he:=he) (hp:=hp) (hx:=hx) (hF:=hF) (hD:=hD)
theorem R8{N:Nd}{E:Env}{L F:List Chunk}{L':List Chunk}{σ:Type}{fn:Func}{post:σ→Prop}{val:σ→Value}{mem:σ→List Chunk}{w0:World}{S:Nat→Prop}{t:Tmp}{ty bt:TypeId}{b s' b':Nat}{fs:List (Nat×TypeId)}{z' cs:List Value}(x:σ)(hr:fn.results= #[.cell t ty]:=by exact rfl)(hv:look E t=Option.some (.pointer (Option.some ⟨b,0,none⟩)):=by exact rfl)(ht:bB P ty=Option.some ⟨.struct fs,s',b',z'⟩:=by exact rfl)(hm:Take (aF b cs bt) L L':=by((repeat(first|exact Take.head|apply Take.tail));first|done|fail))(hl:cs.length=s':=by exact rfl)(he:val x= .agg cs.toArray:=by(first|exact rfl|(refine congrArg (Value.int _) ?_;omega)|(refine congrArg (Value.int _) ?_;dsimp only;omega)))(hp:post x:=by trivial)(hx:∀c∈mem x,c.bE=true:=by(simp[iL,dU,iB,gU]))(hF:aR (aO w0 S::mem x) L F:=by((repeat(first|exact aR.nil|exact Take.head|apply Take.tail|apply aR.cons));first|done|fail))(hD:N.ds=[]:=by exact rfl):End (bodyPost P fn (eJ post val mem w0 S)) N .ret E L:=End.fX (x:=x) (hr:=hr) (hv:=hv) (ht:=ht) (hm:=hm) (hl:=hl) (he:=he) (hp:=hp) (hx:=hx) (hF:=hF) (hD:=hD)
theorem CG{N:Nd}{E:Env}{L F:List Chunk}{L':List Chunk}{σ:Type}{fn:Func}{post:σ→Prop}{val:σ→Value}{mem:σ→List Chunk}{w0:World}{S:Nat→Prop}{t u:Tmp}{ty bt:TypeId}{b s' b':Nat}{fs:List (Nat×TypeId)}{z' cs:List Value}{v:Value}(x:σ)(hp:post x)(hr:fn.results= #[.cell t ty, .tmp u]:=by exact rfl)(hv:look E t=Option.some (.pointer (Option.some ⟨b,0,none⟩)):=by exact rfl)(ht:bB P ty=Option.some ⟨.struct fs,s',b',z'⟩:=by exact rfl)(hm:Take (aF b cs bt) L L':=by((repeat(first|exact Take.head|apply Take.tail));first|done|fail))(hl:cs.length=s':=by exact rfl)(hu:look E u=Option.some v:=by exact rfl)(he:val x= .tuple #[.agg cs.toArray,v]:=by(first|exact rfl|(refine congrArg (Value.int _) ?_;omega)|(refine congrArg (Value.int _) ?_;dsimp only;omega)))(hx:∀c∈mem x,c.bE=true:=by(simp[iL,dU,iB,gU]))(hF:aR (aO w0 S::mem x) L F:=by((repeat(first|exact aR.nil|exact Take.head|apply Take.tail|apply aR.cons));first|done|fail))(hD:N.ds=[]:=by exact rfl):End (bodyPost P fn (eJ post val mem w0 S)) N .ret E L:=End.gI (x:=x) (hr:=hr) (hv:=hv) (ht:=ht) (hm:=hm) (hl:=hl) (hu:=hu) (he:=he) (hp:=hp) (hx:=hx) (hF:=hF) (hD:=hD)
structure Rl(l:List Nat)(A:Prop):Prop where
 out:A
theorem KN{A:Prop}(h:A):Rl [] A:=⟨h⟩
theorem gRr{d:Tmp}{op:Op}{ty:TypeId}{pos:String}{aft:Array Edge}{v:Value}{l:List Nat}(i:Nat)(h:Rl l (RunT P ops Q N e LT fuel (listed.setIfInBounds i true) ((d,v)::E) L))(hi:ops[i]?=some ⟨some d,op,ty,pos,aft,none⟩:=by exact rfl)(hns:Region.noSelect ops=true:=by kernel_rfl)(hf:Region.free .any ops listed i=true:=by kernel_rfl)(hr:(Region.ready .any ops listed).contains i=true:=by kernel_rfl)(hcl:vG .any ops listed=true:=by kernel_rfl)(hw:p8 .any ops i ops.size e=true:=by kernel_rfl)(hQ:aS Q:=by((repeat(first|exact aS.body|apply aS.pT|apply aS.p6|apply aS.block));first|done|fail))(hd:Nat.blt d N.n=true:=by exact rfl)(ht:aR LT L F:=by((repeat(first|exact aR.nil|exact Take.head|apply Take.tail|apply aR.cons));first|done|fail))(hy:Still P N ⟨some d,op,ty,pos,aft,none⟩ E LT v:=by exact oE):Rl (i::l) (RunT P ops Q N e LT (fuel+1) listed E L):=⟨RunT.s4 (i:=i) (hi:=hi) (hns:=hns) (hf:=hf) (hr:=hr) (hcl:=hcl) (hw:=hw) (hQ:=hQ) (hd:=hd) (ht:=ht) (hy:=hy) (h:=h.out)⟩
theorem gRn{d:Tmp}{op:Op}{ty:TypeId}{pos:String}{aft:Array Edge}{v:Value}{l:List Nat}(i:Nat)(h:Rl l (RunT P ops Q N e LT fuel (listed.setIfInBounds i true) ((d,v)::E) L))(hi:ops[i]?=some ⟨some d,op,ty,pos,aft,none⟩:=by exact rfl)(hns:Region.noSelect ops=true:=by kernel_rfl)(hf:Region.free .any ops listed i=true:=by kernel_rfl)(hr:(Region.ready .any ops listed).contains i=true:=by kernel_rfl)(he:Nat.ble ops.size e=true:=by kernel_rfl)(hsz:Nat.beq listed.size ops.size=true:=by kernel_rfl)(hQ:aS Q:=by((repeat(first|exact aS.body|apply aS.pT|apply aS.p6|apply aS.block));first|done|fail))(hd:Nat.blt d N.n=true:=by exact rfl)(ht:aR LT L F:=by((repeat(first|exact aR.nil|exact Take.head|apply Take.tail|apply aR.cons));first|done|fail))(hy:Still P N ⟨some d,op,ty,pos,aft,none⟩ E LT v:=by exact oE):Rl (i::l) (RunT P ops Q N e LT (fuel+1) listed E L):=⟨RunT.NR (i:=i) (hi:=hi) (hns:=hns) (hf:=hf) (hr:=hr) (he:=he) (hsz:=hsz) (hQ:=hQ) (hd:=hd) (ht:=ht) (hy:=hy) (h:=h.out)⟩
theorem gRb{d:Tmp}{op:Op}{ty:TypeId}{pos:String}{aft:Array Edge}{v:Value}{l:List Nat}(i:Nat)(h:Rl l (RunT P ops Q N e LT fuel (listed.setIfInBounds i true) ((d,v)::E) L))(hi:ops[i]?=some ⟨some d,op,ty,pos,aft,none⟩:=by exact rfl)(hns:Region.noSelect ops=true:=by kernel_rfl)(hf:Region.free .any ops listed i=true:=by kernel_rfl)(hr:(Region.ready .any ops listed).contains i=true:=by kernel_rfl)(hcl:vG .any ops listed=true:=by kernel_rfl)(hw:p8 .any ops i ops.size e=true:=by kernel_rfl)(hQ:aS Q:=by exact MR)(hd:Nat.blt d N.n=true:=by exact rfl)(ht:aR LT L F:=by((repeat(first|exact aR.nil|exact Take.head|apply Take.tail|apply aR.cons));first|done|fail))(hy:Still P N ⟨some d,op,ty,pos,aft,none⟩ E LT v:=by exact oE):Rl (i::l) (RunT P ops Q N e LT (fuel+1) listed E L):=⟨RunT.s4 (i:=i) (hi:=hi) (hns:=hns) (hf:=hf) (hr:=hr) (hcl:=hcl) (hw:=hw) (hQ:=hQ) (hd:=hd) (ht:=ht) (hy:=hy) (h:=h.out)⟩
theorem gRd{d:Tmp}{op:Op}{ty:TypeId}{pos:String}{aft:Array Edge}{v:Value}{l:List Nat}(i:Nat)(h:Rl l (RunT P ops Q N e LT fuel (listed.setIfInBounds i true) ((d,v)::E) L))(hi:ops[i]?=some ⟨some d,op,ty,pos,aft,none⟩:=by exact rfl)(hns:Region.noSelect ops=true:=by kernel_rfl)(hf:Region.free .any ops listed i=true:=by kernel_rfl)(hr:(Region.ready .any ops listed).contains i=true:=by kernel_rfl)(hcl:vG .any ops listed=true:=by kernel_rfl)(hw:p8 .any ops i ops.size e=true:=by kernel_rfl)(hQ:aS Q:=by exact MR)(hd:Nat.blt d N.n=true:=by exact rfl)(ht:aR LT L F:=by((repeat(first|exact aR.nil|exact Take.head|apply Take.tail|apply aR.cons));first|done|fail))(hy:Still P N ⟨some d,op,ty,pos,aft,none⟩ E LT v:=by exact Fh):Rl (i::l) (RunT P ops Q N e LT (fuel+1) listed E L):=⟨RunT.s4 (i:=i) (hi:=hi) (hns:=hns) (hf:=hf) (hr:=hr) (hcl:=hcl) (hw:=hw) (hQ:=hQ) (hd:=hd) (ht:=ht) (hy:=hy) (h:=h.out)⟩
theorem KO{o:Oper}{A:Prop}{l:List Nat}(i:Nat)(k:Rl l A)(hr:Region.ready .any ops listed=[i]:=by kernel_rfl)(ho:ops[i]?=some o:=by exact rfl)(hg:o.guard=none:=by exact rfl)(h:Bx A→aB P Q N o E L (fun E' L'=>Good e LT (listed.setIfInBounds i true) L'∧RunT P ops Q N e LT fuel (listed.setIfInBounds i true) E' L'):=by intro hk;refine Jw ?_;refine JG ?_;exact hk.out):Rl (i::l) (RunT P ops Q N e LT (fuel+1) listed E L):=⟨RunT.uD i hr ho hg (h ⟨k.out⟩)⟩
theorem iF{o:Oper}{G:Nat→Prop}(i:Nat)(k:∀b,G b)(hr:Region.ready .any ops listed=[i]:=by kernel_rfl)(ho:ops[i]?=some o:=by exact rfl)(hg:o.guard=none:=by exact rfl)(h:Bx (∀b,G b)→aB P Q N o E L (fun E' L'=>Good e LT (listed.setIfInBounds i true) L'∧RunT P ops Q N e LT fuel (listed.setIfInBounds i true) E' L'):=by intro hk;refine Jb ?_;intro b;refine JG ?_;exact hk.out b):RunT P ops Q N e LT (fuel+1) listed E L:=RunT.uD i hr ho hg (h ⟨k⟩)
theorem lN{o:Oper}{S:Prop}{σ:Type}{p G:σ→Prop}(i:Nat)(spec:S)(k:∀s,p s→G s)(hr:Region.ready .any ops listed=[i]:=by kernel_rfl)(ho:ops[i]?=some o:=by exact rfl)(hg:o.guard=none:=by exact rfl)(h:S→Bx (∀s,p s→G s)→aB P Q N o E L (fun E' L'=>Good e LT (listed.setIfInBounds i true) L'∧RunT P ops Q N e LT fuel (listed.setIfInBounds i true) E' L'):=by intro sp hk;refine aB.bA (spec:=sp) (k:=?_);intro s hs;refine JG ?_;refine Jn ?_;exact hk.out s hs):RunT P ops Q N e LT (fuel+1) listed E L:=RunT.uD i hr ho hg (h spec ⟨k⟩)
theorem jF{o:Oper}{S:Prop}{σ:Type}{p G:σ→Prop}(i:Nat)(spec:S)(k:∀s,p s→G s)(hr:Region.ready .any ops listed=[i]:=by kernel_rfl)(ho:ops[i]?=some o:=by exact rfl)(hg:o.guard=none:=by exact rfl)(h:S→Bx (∀s,p s→G s)→aB P Q N o E L (fun E' L'=>Good e LT (listed.setIfInBounds i true) L'∧RunT P ops Q N e LT fuel (listed.setIfInBounds i true) E' L'):=by intro sp hk;refine aB.bA (spec:=sp) (r:=fun w=>qV) (k:=?_);intro s hs;refine JG ?_;refine Jn ?_;exact hk.out s hs):RunT P ops Q N e LT (fuel+1) listed E L:=RunT.uD i hr ho hg (h spec ⟨k⟩)
theorem b6(h:End Q N .normal E L)(hr:Region.ready .any ops listed=[]:=by kernel_rfl):RunT P ops Q N e LT fuel listed E L:=RunT.done hr h
theorem b8{id:Nat}{l:List Oper}(e:Nat)(LT:List Chunk)(n:Nat)(h:RunT P l.toArray Q N e LT n (Array.replicate n false) E L)(hm:P.follows .mixedOrders=true:=by kernel_rfl)(hn:l.length=n:=by exact rfl):aG P Q N (.region id l.toArray true) E L:=aG.draw e LT hm n hn h
end
theorem bR{A G:Prop}(l:List Nat)(k:G)(h:Bx G→Rl l A:=by intro hk;(repeat(first|refine gRr _ ?_));refine KN ?_;exact hk.out):A:=(h ⟨k⟩).out
theorem iU{A G:Prop}(l:List Nat)(k:G)(h:Bx G→Rl l A:=by intro hk;(repeat(first|refine gRn _ ?_));refine KN ?_;exact hk.out):A:=(h ⟨k⟩).out
theorem gP{A G:Prop}(l:List Nat)(k:G)(h:Bx G→Rl l A:=by intro hk;(repeat(first|refine gRb _ ?_));refine KN ?_;exact hk.out):A:=(h ⟨k⟩).out
theorem gDl{A G:Prop}(l:List Nat)(k:G)(h:Bx G→Rl l A:=by intro hk;(repeat(first|refine gRd _ ?_));refine KN ?_;exact hk.out):A:=(h ⟨k⟩).out
theorem gWl{A G:Prop}(l:List Nat)(k:G)(h:Bx G→Rl l A:=by intro hk;(repeat(first|refine KO _ ?_));refine KN ?_;exact hk.out):A:=(h ⟨k⟩).out
theorem kS{P:Program}{Q:Exit→Act→World→Prop}{N:Nd}{E:Env}{L F:List Chunk}{σ:Type}{c:Code}(ok:σ→Prop)(inv:σ→Env)(mem:σ→List Chunk)(μ:σ→Nat)(s0:σ)(h0:ok s0)(round:∀s,ok s→∀K:Act→World→Prop,(∀s',ok s'→μ s'<μ s→∀a w,Sat N a (inv s')→Mem w (mem s' ++F)→K a w)→aG P (Exit.then K Q) N c (inv s) (mem s ++F))(hE:Sub (inv s0) E:=by exact sb)(hL:aR (mem s0) L F:=by exact cA):aG P Q N (.loop c) E L:=aG.loop ok inv mem μ s0 h0 hE hL round
theorem cK{P:Program}{Q:Exit→Act→World→Prop}{N:Nd}{E:Env}{L F:List Chunk}{σ:Type}{c:Code}(ok:σ→Prop)(inv:σ→Env)(mem:σ→List Chunk)(μ:σ→Nat)(s0:σ)(h0:ok s0)(round:∀s,ok s→∀K:Act→World→Prop,(∀s',ok s'→μ s'<μ s→∀a w,Sat N a (inv s')→Mem w (mem s' ++[])→K a w)→aG P (Exit.then K Q) N c (inv s) (mem s ++[]))(hE:Sub (inv s0) E:=by exact sb)(hL:aR (mem s0) L F:=by exact cA):aG P Q N (.loop c) E L:=aG.imp (fun w hm=>(hm.aP hL).left) (aG.loop (F:=[]) ok inv mem μ s0 h0 hE (by simpa using aR.all (mem s0)) round)
end
section
open Go
section
variable{κ:Type} [dκ:DecidableEq κ] [iκ:cJ κ]{α:Type}
@[irreducible] def vM (b : Nat) (g : α → Value) (l : List (κ × α)) (bs : List Nat) (ck : Nat) : Chunk where
 holds w:=∃es,w.heap[b]?=some (.map es ck)∧es.toList.map (fun e=>(e.key,e.val))=l.map (fun p=>(cJ.kv p.1,g p.2))∧es.toList.map (·.born)=bs∧m7 es ck
 dA k:=k=b
 bE:=true
 lT k hs h:=by
  obtain⟨es,h1,h2⟩:=h;exact⟨es,k.at h1 (hs _ rfl),h2⟩
 lt h k hk:=by
  obtain⟨es,h1,h2⟩:=h;subst hk;exact(Array.getElem?_eq_some_iff.1 h1).1
@[irreducible] def mpr (b : Nat) (g : α → Value) (l : List (κ × α)) (bs : List Nat) (ck : Nat) : Chunk where
 holds w:=(vM b g l bs ck).holds w
 dA k:=k=b
 bE:=false
 lT k hs h:=(vM b g l bs ck).lT k (fun i hi=>hs i (by unfold vM at hi;exact hi)) h
 lt h k hk:=(vM b g l bs ck).lt h k (by unfold vM;exact hk)
@[irreducible] def qP (rb b : Nat) (bs : List Nat) (ck : Nat) (vis : List Nat) : Chunk where
 holds w:=w.heap[rb]?=some (.mapIter (some b) ck (vis.map fun i=>bs.getD i 0).toArray ck)
 dA k:=k=rb
 bE:=true
 lT k hs h:=k.at h (hs _ rfl)
 lt h k hk:=by
  subst hk;exact(Array.getElem?_eq_some_iff.1 h).1
variable{b rb ck:Nat}{g:α→Value}{l:List (κ×α)}{bs vis:List Nat}{w:World}
theorem CT:(vM b g l bs ck).holds w↔∃es,w.heap[b]?=some (.map es ck)∧es.toList.map (fun e=>(e.key,e.val))=l.map (fun p=>(cJ.kv p.1,g p.2))∧es.toList.map (·.born)=bs∧m7 es ck:=by unfold vM;exact Iff.rfl
theorem CU:(mpr b g l bs ck).holds w↔(vM b g l bs ck).holds w:=by unfold mpr;exact Iff.rfl
theorem aD1{k:Nat}:(mpr b g l bs ck).dA k↔k=b:=by unfold mpr;exact Iff.rfl
theorem aD0:(mpr b g l bs ck).bE=false:=by unfold mpr;rfl
theorem FP:(qP rb b bs ck vis).holds w↔w.heap[rb]?=some (.mapIter (some b) ck (vis.map fun i=>bs.getD i 0).toArray ck):=by unfold qP;exact Iff.rfl
theorem FO{k:Nat}:(qP rb b bs ck vis).dA k↔k=rb:=by unfold qP;exact Iff.rfl
theorem aC7:(qP rb b bs ck vis).bE=true:=by unfold qP;rfl
section
variable{P:Program} [eT P]{Q:Exit→Act→World→Prop}{N:Nd}{E:Env}{L L':List Chunk}
variable{dst:Option Tmp}{ty:TypeId}{pos:String}{aft:Array Edge}{gu:Option (Nat×Bool)}
variable{t kt et s1 b1:Nat}{z1:List Value}
theorem aB.range{x:Operand}{C:Env→List Chunk→Prop}(hx:ev E x=some (.map (some b)))(ht:bB P t=some ⟨.map kt et,s1,b1,z1⟩)(hm:Take (mpr b g l bs ck) L L')(hd:cR N dst=true)
  (k:∀rb,C (cP dst (.pointer (some ⟨rb,0,none⟩)) E) (qP rb b bs ck []::L)):aB P Q N ⟨dst, .range t x,ty,pos,aft,gu⟩ E L C:=fun K hK A w hS hM=>by
 obtain⟨es,h1,h2,h3,h4⟩:=CT.1 (CU.1 (hM.has hm));have hr:(execOp A.eval ⟨dst, .range t x,ty,pos,aft,gu⟩).run P w= .ok (.value (.pointer (some ⟨w.heap.size,0,none⟩))) (w.alloc (.mapIter (some b) ck #[] ck)):=by
  simp only[execOp,hS.ev hx,Sem.run_bind,run_range_map w t kt et b es ck (cI ht).map h1,Result.andThen_ok,Sem.run_pure]
 unfold Oper.wp;rw[hr];refine hK _ _ (k w.heap.size) _ _ (hS.put _ hd) (hM.add ((cB.refl _ _).alloc _) (FP.2 ?_) (fun b hb=>by rw[FO.1 hb];exact bS _));exact heap_alloc_new w _
theorem aB.next{x:Operand}{C:Env→List Chunk→Prop}{F L2:List Chunk}(hx:ev E x=some (.pointer (some ⟨rb,0,none⟩)))(hmr:Take (mpr b g l bs ck) L L2)(hm:Take (qP rb b bs ck vis) L F)(hv:∀j∈vis,j<l.length)(hd:cR N dst=true)
  (k0:(∀i,i<l.length→i∈vis)→C (cP dst (.tuple #[.bool false]) E) L) (k1:∀i p,l[i]?=some p→i∉vis→C (cP dst (.tuple #[.bool true,cJ.kv p.1,g p.2]) E) (qP rb b bs ck (vis ++[i])::F)):
  aB P Q N ⟨dst, .next x false,ty,pos,aft,gu⟩ E L C:=fun K hK A w hS hM=>by
 obtain⟨es,h1,h2,h3,h4⟩:=CT.1 (CU.1 (hM.has hmr));have g1:=FP.1 (hM.has hm);have hl:es.toList.length=l.length:=by have:=congrArg List.length h2;simpa using this
 have hbl:bs.length=l.length:=by rw[←h3];simpa using hl
 have hnd:bs.Nodup:=h3▸h4.nd;have hat:∀i (hi:i<es.toList.length),bs.getD i 0=es.toList[i].born:=fun i hi=>by
  rw[←h3,Jd,JU,Je hi];rfl
 have hrun:∀r w',(Instr.next (.pointer (some ⟨rb,0,none⟩)) false ty).run P w= .ok r w'→(execOp A.eval ⟨dst, .next x false,ty,pos,aft,gu⟩).run P w= .ok (.value r) w':=fun r w' h=>by
  simp only[execOp,hS.ev hx,Sem.run_bind,h,Result.andThen_ok,Sem.run_pure]
 unfold Oper.wp;rcases run_next_at (P:=P) w ty rb b ck ck _ es ck g1 h1 h4.lt (bS _)with⟨h0,hr⟩|⟨e,he,w1,hal,hr⟩
 ·rw[hrun _ _ hr];refine hK _ _ (k0 fun i hi=>?_) _ _ (hS.put _ hd) hM;have hs:=all_seen es _ h0 _ (hZ (by omega:i<es.toList.length));rw[←hat i aA]at hs;rw[Array.contains_iff_mem,List.mem_toArray,eY]at hs;obtain⟨j,hj,hy⟩:=hs;have hj':=hv j hj;have e:i=j:=by
   have hy:=hy.symm;rw[Jd,Jd,Je aA,Je aA]at hy;exact(List.getElem_inj hnd).1 hy
  rw[e];exact hj
 ·rw[hrun _ _ hr];obtain⟨he1,he2⟩:=mem_left he;obtain⟨i,hi,rfl⟩:=pC he1;have hp:(cJ.kv (l[i]' aA).1,g (l[i]' aA).2)=(es.toList[i].key,es.toList[i].val):=by
   have:=congrArg (fun x=>x[i]?) h2;simp only[JU,Je hi,Je (show i<l.length by omega),pA,tE]at this;exact this.symm
  have hni:i∉vis:=fun hin=>by
   rw[←hat i hi]at he2;have:(vis.map fun i=>bs.getD i 0).toArray.contains (bs.getD i 0)=true:=by
    rw[Array.contains_iff_mem,List.mem_toArray,eY];exact⟨i,hin,rfl⟩
   rw[this]at he2;cases he2
  have hc:=k1 i _ (Je (show i<l.length by omega)) hni;rw[(Prod.mk.inj hp).1,(Prod.mk.inj hp).2]at hc;have hM1:Mem w1 L:=by rcases hal with rfl|rfl;exact hM;exact hM.drew
  have hb1:w1.heap[rb]?=w.heap[rb]?:=by rcases hal with rfl|rfl<;>rfl
  have hlt:rb<w1.heap.size:=(Array.getElem?_eq_some_iff.1 (hb1.trans g1)).1;refine hK _ _ hc _ _ (hS.put _ hd) ((hM1.take hm).s6 (S:=fun i=>i=rb) ⟨rfl,rfl,rfl,by simp[ChangeMaps.setBlock],fun i hi hs=>?_⟩ aC7 (fun c hc _=>FO.2 hc) (FP.2 ?_) (fun c hc=> .inl (FO.2 (FO.1 hc))))
  ·simp only[ChangeMaps.setBlock,D8];rw[if_neg (fun h=>hs h.symm)]
  ·simp only[ChangeMaps.setBlock,D8,if_pos hlt,if_true];rw[hat i hi|>.symm];simp
theorem Still.entry{x:Operand}{L2:List Chunk}{i:Nat}{p:κ×α}(hx:ev E x=some (.pointer (some ⟨rb,0,none⟩)))(hmr:Take (mpr b g l bs ck) L L2)(hm:Take (qP rb b bs ck (vis ++[i])) L L')(hp:l[i]?=some p):
  Still P N ⟨dst, .entry x,ty,pos,aft,gu⟩ E L (.tuple #[cJ.kv p.1,g p.2]):=fun A w hS hM=>by
 obtain⟨es,h1,h2,h3,h4⟩:=CT.1 (CU.1 (hM.has hmr));have g1:=FP.1 (hM.has hm);have hl:es.toList.length=l.length:=by have:=congrArg List.length h2;simpa using this
 obtain⟨hi,rfl⟩:=rE.1 hp;have hi':i<es.toList.length:=aA;have hat:bs.getD i 0=es.toList[i].born:=by
  rw[←h3,Jd,JU,Je hi'];rfl
 have hpp:(cJ.kv (l[i]).1,g (l[i]).2)=(es.toList[i].key,es.toList[i].val):=by
  have:=congrArg (fun x=>x[i]?) h2;simp only[JU,Je hi',Je hi,pA,tE]at this;exact this.symm
 have h:=run_entry_at (P:=P) w rb b ck (vis.map fun i=>bs.getD i 0).toArray es ck es.toList[i] (by rw[g1,←hat];simp) h1 (hZ hi') h4.nd;rw[(Prod.mk.inj hpp).1,(Prod.mk.inj hpp).2];simp only[execOp,hS.ev hx,Sem.run_bind,h,Result.andThen_ok,Sem.run_pure]
end
end
end
end Go.Proofs.YtofckcabpchcmaaGreatDoor
