/- Long texts that come again and again, as lemmas. Of whatever program. (Printed by a program of mine.) -/
import Derived.Test.YtofckcabpchcmaaGreatDoorM04
import Derived.Maps.RangeRun
import Derived.Defers
import Derived.Test.YtofckcabpchcmaaGreatDoorChecked
set_option linter.unusedVariables false
set_option linter.unusedSimpArgs false
set_option linter.unusedSectionVars false
set_option maxRecDepth 100000
namespace Go.Proofs.YtofckcabpchcmaaGreatDoor
section
open Go Go.RowKit
theorem Js{A:Prop}(h:A:=by(first|exact Still.aFF rfl rfl|exact Still.aFJ rfl rfl|exact Still.aFI rfl rfl|exact Still.VB rfl rfl (by omega) (by omega))):A:=h
theorem Jx{A:Prop}(h:A:=by(repeat(first|exact aQ.nil|exact Take.head|(refine Take.ZD ?_;(focus (first|rfl|(simp;done)|(simp;omega)|omega|(simp[*];done))))|(refine Take.Y1 ?_ ?_;(focus (first|rfl|(simp;done)|(simp;omega)|omega|(simp[*];done)));(focus (first|rfl|(simp;done)|(simp;omega)|omega|(simp[*];done))))|apply Take.tail|apply aQ.cons))):A:=h
theorem Jr{A:Prop}(h:A:=by(first|(apply bU.arr;focus ((repeat(first|exact Take.head|apply Take.tail));done))|(apply bU.rd;focus ((repeat(first|exact Take.head|apply Take.tail));done))|(apply bU.uS;focus ((repeat(first|exact Take.head|apply Take.tail));done))|(apply bU.wY;focus ((repeat(first|exact Take.head|apply Take.tail));done))|(apply bU.wZ;(focus ((repeat(first|exact Take.head|apply Take.tail));done));(focus (first|assumption|omega)))|(apply bU.w5;(focus ((repeat(first|exact Take.head|apply Take.tail));done));(focus (first|assumption|omega)))|(apply bU.aI;(focus assumption);(focus ((repeat(first|exact Take.head|apply Take.tail));done))))):A:=h
theorem Jv{A:Prop}(h:A:=by(first|exact rfl|(refine congrArg (Value.int _) ?_;omega)|(refine congrArg (Value.int _) ?_;dsimp only;omega))):A:=h
theorem Ju{A:Prop}(h:A:=by(repeat(first|exact Sub.nil|(apply Sub.cons;(focus (exact rfl)))|(apply Sub.cons';(focus (exact rfl));(focus (first|exact rfl|(refine congrArg (Value.int _) ?_;omega)|(refine congrArg (Value.int _) ?_;dsimp only;omega))))))):A:=h
theorem Jn{A G:Prop}(k:G)(h:Bx G→A:=by intro hk;(try conv=>rhs;simp only[List.cons_append,List.nil_append]);exact hk.out):A:=h ⟨k⟩
theorem Jc{A G:Prop}(k:G)(h:Bx G→A:=by intro hk;(first|(apply aE.op;exact rfl)|refine aE.gL (h:=?_));exact hk.out):A:=h ⟨k⟩
theorem Jg{A G:Prop}(k:G)(h:Bx G→A:=by intro hk;(first|(apply aE.op;exact rfl;refine aA.b8 (h:=Js) (k:=?_))|(refine aE.gL (h:=?_);refine aA.b8 (h:=Js) (k:=?_))|refine aM.b8 (h:=Js) (k:=?_)|refine aM.gL (h:=Js) (k:=?_));exact hk.out):A:=h ⟨k⟩
theorem Jw{A G:Prop}(k:G)(h:Bx G→A:=by intro hk;(first|refine aA.b8 (k:=?_)|refine aA.store_ (k:=?_));exact hk.out):A:=h ⟨k⟩
theorem Jb{A G:Prop}(k:G)(h:Bx G→A:=by intro hk;(first|refine aA.HC (k:=?_)|refine aA.HM (k:=?_)|refine aA.HR (k:=?_)|refine aA.HQ (k:=?_));exact hk.out):A:=h ⟨k⟩
theorem Ja{A G:Prop}(k:G)(h:Bx G→A:=by intro hk;(first|refine aA.jL (k:=?_)|refine aA.H6 (k:=?_)|refine aA.H8 (k:=?_)|refine aA.H7 (k:=?_)|refine aA.cutA_ (k:=?_)|refine aA.cutR_ (k:=?_));exact hk.out):A:=h ⟨k⟩
section
variable{P:Program} [eP P]{ops:Array Oper}{Q:Exit→Act→World→Prop}{N:Nd}{e:Nat}{LT:List Chunk}{fuel:Nat}{listed:Array Bool}{E:Env}{L L' F:List Chunk}
variable{d0 d:Tmp}{op:Op}{dst:Option Tmp}{ty:TypeId}{pos:String}{aft:Array Edge}{g:Option (Nat×Bool)}
theorem JR{d:Tmp}{op:Op}{ty:TypeId}{pos:String}{aft:Array Edge}{v:Value}(i:Nat)(h:RunT P ops Q N e LT fuel (listed.setIfInBounds i true) ((d,v)::E) L)(hi:ops[i]?=some ⟨some d,op,ty,pos,aft,none⟩:=by exact rfl)(hns:Region.noSelect ops=true:=by kernel_rfl)(hf:Region.free .any ops listed i=true:=by kernel_rfl)(hr:(Region.ready .any ops listed).contains i=true:=by kernel_rfl)(hcl:A6 .any ops listed=true:=by kernel_rfl)(hw:sE .any ops i ops.size e=true:=by kernel_rfl)(hQ:aO Q:=by((repeat(first|exact aO.body|apply aO.pX|apply aO.p7|apply aO.block));first|done|fail))(hd:Nat.blt d N.n=true:=by exact rfl)(ht:aQ LT L F:=by((repeat(first|exact aQ.nil|exact Take.head|apply Take.tail|apply aQ.cons));first|done|fail))(hy:Still P N ⟨some d,op,ty,pos,aft,none⟩ E LT v:=by exact p6):RunT P ops Q N e LT (fuel+1) listed E L:=RunT.a7 (i:=i) (hi:=hi) (hns:=hns) (hf:=hf) (hr:=hr) (hcl:=hcl) (hw:=hw) (hQ:=hQ) (hd:=hd) (ht:=ht) (hy:=hy) (h:=h)
theorem JN{d:Tmp}{op:Op}{ty:TypeId}{pos:String}{aft:Array Edge}{v:Value}(i:Nat)(h:RunT P ops Q N e LT fuel (listed.setIfInBounds i true) ((d,v)::E) L)(hi:ops[i]?=some ⟨some d,op,ty,pos,aft,none⟩:=by exact rfl)(hns:Region.noSelect ops=true:=by kernel_rfl)(hf:Region.free .any ops listed i=true:=by kernel_rfl)(hr:(Region.ready .any ops listed).contains i=true:=by kernel_rfl)(he:Nat.ble ops.size e=true:=by kernel_rfl)(hsz:Nat.beq listed.size ops.size=true:=by kernel_rfl)(hQ:aO Q:=by((repeat(first|exact aO.body|apply aO.pX|apply aO.p7|apply aO.block));first|done|fail))(hd:Nat.blt d N.n=true:=by exact rfl)(ht:aQ LT L F:=by((repeat(first|exact aQ.nil|exact Take.head|apply Take.tail|apply aQ.cons));first|done|fail))(hy:Still P N ⟨some d,op,ty,pos,aft,none⟩ E LT v:=by exact p6):RunT P ops Q N e LT (fuel+1) listed E L:=RunT.V9 (i:=i) (hi:=hi) (hns:=hns) (hf:=hf) (hr:=hr) (he:=he) (hsz:=hsz) (hQ:=hQ) (hd:=hd) (ht:=ht) (hy:=hy) (h:=h)
theorem JT{o:Oper}(i:Nat)(h:aA P Q N o E L (fun E' L'=>Good e LT (listed.setIfInBounds i true) L'∧RunT P ops Q N e LT fuel (listed.setIfInBounds i true) E' L'))(hr:Region.ready .any ops listed=[i]:=by kernel_rfl)(ho:ops[i]?=some o:=by exact rfl)(hg:o.guard=none:=by exact rfl):RunT P ops Q N e LT (fuel+1) listed E L:=RunT.B5 (i:=i) (hr:=hr) (ho:=ho) (hg:=hg) (h:=h)
theorem JK{σ:Type}{dst:Option Tmp}{x:Operand}{args:List Operand}{dW:Array TypeId}{ty:TypeId}{pos:String}{aft:Array Edge}{g:Option (Nat×Bool)}{f:FuncId}{vs:List Value}{R pre F:List Chunk}{post:σ→Prop}{val:σ→Value}{mem:σ→List Chunk}{C:Env→List Chunk→Prop}(spec:Fn P f vs.toArray R pre post val mem)(k:∀s,post s→C (cD dst (val s) E) (mem s ++F))(hx:ev E x=some (.func (.func f) #[] #[]):=by exact rfl)(hv:fX E args vs:=by exact m4)(hc:fM P f=true:=by kernel_rfl)(hd:cF N dst=true:=by exact rfl)(t:aQ pre L F:=by((repeat(first|exact aQ.nil|exact Take.head|apply Take.tail|apply aQ.cons));first|done|fail))(r:∀w,Reads w R F:=by intro w;exact CI):aA P Q N ⟨dst, .call ⟨.value x,args.toArray,dW⟩,ty,pos,aft,g⟩ E L C:=aA.aZ (hx:=hx) (hv:=hv) (hc:=hc) (hd:=hd) (spec:=spec) (t:=t) (r:=r) (k:=k)
theorem JL{σ:Type}{dst:Option Tmp}{x:Operand}{args:List Operand}{dW:Array TypeId}{ty:TypeId}{pos:String}{aft:Array Edge}{g:Option (Nat×Bool)}{f:FuncId}{vs:List Value}{cap:Array Value}{R pre F:List Chunk}{post:σ→Prop}{val:σ→Value}{mem:σ→List Chunk}{C:Env→List Chunk→Prop}(spec:Fn P f (vs.toArray ++cap) R pre post val mem)(k:∀s,post s→C (cD dst (val s) E) (mem s ++F))(hx:ev E x=some (.func (.func f) #[] cap):=by exact rfl)(hv:fX E args vs:=by exact m4)(hc:fM P f=true:=by kernel_rfl)(hd:cF N dst=true:=by exact rfl)(t:aQ pre L F:=by((repeat(first|exact aQ.nil|exact Take.head|apply Take.tail|apply aQ.cons));first|done|fail))(r:∀w,Reads w R F:=by intro w;exact CI):aA P Q N ⟨dst, .call ⟨.value x,args.toArray,dW⟩,ty,pos,aft,g⟩ E L C:=aA.O6 (hx:=hx) (hv:=hv) (hc:=hc) (hd:=hd) (spec:=spec) (t:=t) (r:=r) (k:=k)
end
theorem Jo{A G:Prop}(k:G)(h:Bx G→A:=by(intro hk;(first|(apply aE.op;exact rfl;(first|refine aA.b8 (k:=?_)|refine aA.store_ (k:=?_)))|apply aB.jQ|apply aB.region|apply aB.block|apply aB.exit|apply aB.ret|apply aB.skip|apply aB.label|apply aE.nil|apply aM.nil|apply aP.nil|apply End.jQ|apply End.I9|apply End.KC|apply End.KD|apply End.M6|apply End.M7|apply End.LK|apply End.LL|refine End.KA (h:=?_)|refine aB.H3 (h1:=?_)|refine aB.H2 (h1:=?_)|refine aB.M5 (h:=?_)|refine aB.MA (h:=?_)|refine aM.b8 (k:=?_)|refine aM.gL (k:=?_)|refine aM.qU (k:=?_)|refine aM.sB (k:=?_)|refine aP.b8 (k:=?_)|refine aP.gL (k:=?_)|refine aP.qU (k:=?_)|refine aP.sB (k:=?_)|(refine aE.gL (h:=?_);(first|refine aA.b8 (k:=?_)|refine aA.store_ (k:=?_)))|refine aE.qU (k:=?_)|refine aE.sB (k:=?_)|refine aE.qQ (k:=?_)|refine aE.qP (k:=?_)|refine aM.qQ (k:=?_)|refine aM.qP (k:=?_)|refine aP.qQ (k:=?_)|refine aP.qP (k:=?_));repeat(first|(apply aE.op;exact rfl;(first|refine aA.b8 (k:=?_)|refine aA.store_ (k:=?_)))|apply aB.jQ|apply aB.region|apply aB.block|apply aB.exit|apply aB.ret|apply aB.skip|apply aB.label|apply aE.nil|apply aM.nil|apply aP.nil|apply End.jQ|apply End.I9|apply End.KC|apply End.KD|apply End.M6|apply End.M7|apply End.LK|apply End.LL|refine End.KA (h:=?_)|refine aB.H3 (h1:=?_)|refine aB.H2 (h1:=?_)|refine aB.M5 (h:=?_)|refine aB.MA (h:=?_)|refine aM.b8 (k:=?_)|refine aM.gL (k:=?_)|refine aM.qU (k:=?_)|refine aM.sB (k:=?_)|refine aP.b8 (k:=?_)|refine aP.gL (k:=?_)|refine aP.qU (k:=?_)|refine aP.sB (k:=?_)|(refine aE.gL (h:=?_);(first|refine aA.b8 (k:=?_)|refine aA.store_ (k:=?_)))|refine aE.qU (k:=?_)|refine aE.sB (k:=?_)|refine aE.qQ (k:=?_)|refine aE.qP (k:=?_)|refine aM.qQ (k:=?_)|refine aM.qP (k:=?_)|refine aP.qQ (k:=?_)|refine aP.qP (k:=?_)));exact hk.out):A:=h ⟨k⟩
theorem JB{A G:Prop}(k:G)(h:Bx G→A:=by intro hk;(first|(apply aE.op;exact rfl;(first|refine aA.HC (k:=?_)|refine aA.HM (k:=?_)|refine aA.HR (k:=?_)|refine aA.HQ (k:=?_)))|(refine aE.gL (h:=?_);(first|refine aA.HC (k:=?_)|refine aA.HM (k:=?_)|refine aA.HR (k:=?_)|refine aA.HQ (k:=?_))));exact hk.out):A:=h ⟨k⟩
theorem JA{A G:Prop}(k:G)(h:Bx G→A:=by intro hk;(first|(apply aE.op;exact rfl;(first|refine aA.jL (k:=?_)|refine aA.H6 (k:=?_)|refine aA.H8 (k:=?_)|refine aA.H7 (k:=?_)|refine aA.cutA_ (k:=?_)|refine aA.cutR_ (k:=?_)))|(refine aE.gL (h:=?_);(first|refine aA.jL (k:=?_)|refine aA.H6 (k:=?_)|refine aA.H8 (k:=?_)|refine aA.H7 (k:=?_)|refine aA.cutA_ (k:=?_)|refine aA.cutR_ (k:=?_))));exact hk.out):A:=h ⟨k⟩
theorem Jm{A:Prop}(h:A:=by exact Reads.md tk (Reads.any tk (by simp) .nil)):A:=h
theorem Jz{A G:Prop}(k:G)(h:Bx G→A:=by intro hk;(first|(refine JB ?_;exact hk.out)|(refine JA ?_;exact hk.out))):A:=h ⟨k⟩
theorem Jy{A G:Prop}(k:G)(h:Bx G→A:=by intro hk;(first|(refine Jo ?_;exact hk.out)|(refine JB ?_;exact hk.out)|(refine JA ?_;exact hk.out))):A:=h ⟨k⟩
theorem JE{P:Program}{f:FuncId}{fn:Func}{c:Code}{σ:Type}{N:Nat}{R pre:List Chunk}{post:σ→Prop}{val:σ→Value}{mem:σ→List Chunk}(args:List Value)(hf:P.funcs[f]?=some fn)(hN:fn.ntmps=N)(h:∀w S,aB P (bodyPost P fn (fZ post val mem w S)) ⟨N,[]⟩ c (first 0 args) (aI w S::(R ++pre)))(hb:fn.body=some c:=by exact rfl)(hA:Nat.ble args.length N=true:=by exact rfl)(hR:∀c∈R,c.bB=false:=by simp[fP,m9]):Fn P f args.toArray R pre post val mem:=Fn.enter hf hb N hN hA hR h
theorem JQ{A G S:Prop}(spec:S)(k:G)(h:S→Bx G→A:=by intro sp hk;(first|(apply aE.op;exact rfl)|refine aE.gL (h:=?_));exact aA.aZ (spec:=sp) (k:=hk.out)):A:=h spec ⟨k⟩
theorem JM{A G S:Prop}(spec:S)(k:G)(h:S→Bx G→A:=by intro sp hk;(first|(apply aE.op;exact rfl)|refine aE.gL (h:=?_));exact aA.aZ (spec:=sp) (r:=fun w=>Jm) (k:=hk.out)):A:=h spec ⟨k⟩
theorem JH{A G S:Prop}(spec:S)(k:G)(h:S→Bx G→A:=by intro sp hk;(first|(apply aE.op;exact rfl)|refine aE.gL (h:=?_));exact aA.aZ (spec:=sp) (t:=Jx) (k:=hk.out)):A:=h spec ⟨k⟩
theorem JG{e:Nat}{LT:List Chunk}{listed:Array Bool}{L:List Chunk}{B:Prop}(k:B)(h:Good e LT listed L:=by exact uP):Good e LT listed L∧B:=⟨h,k⟩
abbrev Jd:= @List.getD_eq_getElem?_getD
abbrev Je:= @List.getElem?_eq_getElem
abbrev Jf:= @List.length_map
abbrev Ji:= @List.length_set
abbrev Jj:= @Int.toNat_natCast
abbrev Jk:= @List.nil_append
abbrev Jl:= @List.length_append
abbrev qF:= @Int.toNat_of_nonneg
abbrev Jp:= @List.take_succ_eq_append_getElem
abbrev Jq:= @List.map_append
abbrev Jt:= @List.append_assoc
abbrev JI:= @Int.eq_ofNat_of_zero_le
abbrev JP:= @List.length_pos_iff
abbrev JS:= @List.getElem?_set_self
abbrev JU:= @List.getElem?_map
abbrev JV:= @decide_eq_true_eq
abbrev JW:= @List.length_cons
abbrev JX:= @Bool.and_eq_true
abbrev JY:= @decide_eq_false_iff_not
abbrev JZ:= @Option.getD_some
abbrev aU:= @Option.bind_some
abbrev bO:= @Option.bind_eq_some_iff
abbrev a8:= @Option.map_some
abbrev cE:= @Option.bind_none
abbrev cC:= @Option.map_none
abbrev bP:= @Nat.zero_le
abbrev dG:= @Option.map_eq_some_iff
abbrev cG:= @Nat.le_refl
abbrev dH:= @List.mem_append
abbrev eH:= @List.append_nil
abbrev fB:= @List.getElem_mem
abbrev fC:= @List.length_drop
abbrev gD:= @List.mem_singleton
abbrev eB:= @List.mem_cons
abbrev dO:= @Nat.le_trans
abbrev gU:= @List.mem_cons_self
abbrev jA:= @List.length_singleton
abbrev eG:= @List.map_cons
abbrev iO:= @List.mem_cons_of_mem
abbrev jB:= @List.mem_of_getElem?
abbrev lN:= @Option.isSome_iff_exists
abbrev lD:= @List.drop_of_length_le
abbrev fD:= @List.mem_map
abbrev nM:= @Classical.byContradiction
abbrev pE:= @List.eq_nil_of_length_eq_zero
abbrev lO:= @List.mem_map_of_mem
abbrev lE:= @List.length_take
abbrev mS:= @List.getElem_of_mem
abbrev qC:= @Bool.eq_false_or_eq_true
abbrev pF:= @List.take_of_length_le
abbrev l4:= @List.take_length
abbrev lP:= @List.mem_filter
abbrev pG:= @List.length_filter_le
abbrev pH:= @List.perm_append_comm
abbrev rF:= @List.getElem?_append_left
abbrev mT:= @List.ext_getElem
abbrev oH:= @List.filter_append
abbrev pI:= @List.getElem?_set
abbrev tT:= @List.getElem?_eq_some_iff
abbrev rG:= @List.mem_append_left
abbrev tU:= @List.mem_or_eq_of_mem_set
abbrev nN:= @List.mem_range
abbrev oI:= @List.length_nil
abbrev oJ:= @List.range_succ
abbrev pJ:= @List.filter_cons
abbrev sK:= @List.mem_append_right
abbrev qD:= @List.any_eq_true
abbrev l6:= @Nat.le_succ
abbrev rH:= @List.nodup_append
abbrev tV:= @List.getElem?_eq_none
abbrev vU:= @Nat.lt_succ_iff_lt_or_eq
abbrev xR:= @List.getElem?_append_right
abbrev rI:= @Bool.eq_iff_iff
abbrev sL:= @List.all_eq_true
abbrev tW:= @Classical.not_not
abbrev tX:= @List.any_eq_false
abbrev tY:= @Option.some.injEq
abbrev AQ:= @List.perm_append_comm_assoc
abbrev DA:= @List.findIdx?_eq_some_iff_getElem
abbrev qE:= @List.map_nil
abbrev tZ:= @List.getElem_set
abbrev uA:= @List.perm_middle
abbrev vV:= @Nat.lt_of_lt_of_le
abbrev AR:= @List.mem_of_find?_eq_some
abbrev uB:= @Option.some.inj
abbrev vW:= @Decidable.not_not
abbrev vX:= @Function.comp_def
abbrev vY:= @List.flatMap_cons
abbrev vZ:= @List.foldl_append
abbrev sM:= @Bool.true_and
abbrev DB:= @Array.getElem?_setIfInBounds
abbrev v8:= @List.cons_append
abbrev wA:= @List.mem_flatMap
abbrev xS:= @Bool.false_eq_true
abbrev AS:= @List.length_replicate
abbrev wC:= @Nat.not_lt_zero
abbrev oK:= @Prod.ext
abbrev AT:= @List.forall_mem_cons
abbrev DC:= @List.eq_of_mem_replicate
abbrev uC:= @List.map_map
abbrev uD:= @Nat.zero_add
abbrev AU:= @List.flatMap_append
abbrev AV:= @List.takeWhile_cons
abbrev wD:= @Prod.mk.injEq
abbrev xU:= @List.cons.injEq
abbrev xV:= @List.filter_map
abbrev xW:= @List.find?_cons
abbrev AW:= @List.getElem?_take
abbrev xX:= @List.nodup_cons
end
section
open Go
section
variable{κ:Type} [dκ:DecidableEq κ] [iκ:cA κ]{α:Type}
@[irreducible] def uT (b : Nat) (g : α → Value) (l : List (κ × α)) (bs : List Nat) (ck : Nat) : Chunk where
 holds w:=∃es,w.heap[b]?=some (.map es ck)∧es.toList.map (fun e=>(e.key,e.val))=l.map (fun p=>(cA.kv p.1,g p.2))∧es.toList.map (·.born)=bs∧lC es ck
 cO k:=k=b
 bB:=true
 kY k hs h:=by
  obtain⟨es,h1,h2⟩:=h;exact⟨es,k.at h1 (hs _ rfl),h2⟩
 lt h k hk:=by
  obtain⟨es,h1,h2⟩:=h;subst hk;exact(Array.getElem?_eq_some_iff.1 h1).1
@[irreducible] def mpr (b : Nat) (g : α → Value) (l : List (κ × α)) (bs : List Nat) (ck : Nat) : Chunk where
 holds w:=(uT b g l bs ck).holds w
 cO k:=k=b
 bB:=false
 kY k hs h:=(uT b g l bs ck).kY k (fun i hi=>hs i (by unfold uT at hi;exact hi)) h
 lt h k hk:=(uT b g l bs ck).lt h k (by unfold uT;exact hk)
@[irreducible] def nU (rb b : Nat) (bs : List Nat) (ck : Nat) (vis : List Nat) : Chunk where
 holds w:=w.heap[rb]?=some (.mapIter (some b) ck (vis.map fun i=>bs.getD i 0).toArray ck)
 cO k:=k=rb
 bB:=true
 kY k hs h:=k.at h (hs _ rfl)
 lt h k hk:=by
  subst hk;exact(Array.getElem?_eq_some_iff.1 h).1
variable{b rb ck:Nat}{g:α→Value}{l:List (κ×α)}{bs vis:List Nat}{w:World}
theorem BU:(uT b g l bs ck).holds w↔∃es,w.heap[b]?=some (.map es ck)∧es.toList.map (fun e=>(e.key,e.val))=l.map (fun p=>(cA.kv p.1,g p.2))∧es.toList.map (·.born)=bs∧lC es ck:=by unfold uT;exact Iff.rfl
theorem BV:(mpr b g l bs ck).holds w↔(uT b g l bs ck).holds w:=by unfold mpr;exact Iff.rfl
theorem aDC{k:Nat}:(mpr b g l bs ck).cO k↔k=b:=by unfold mpr;exact Iff.rfl
theorem aDB:(mpr b g l bs ck).bB=false:=by unfold mpr;rfl
theorem EG:(nU rb b bs ck vis).holds w↔w.heap[rb]?=some (.mapIter (some b) ck (vis.map fun i=>bs.getD i 0).toArray ck):=by unfold nU;exact Iff.rfl
theorem EF{k:Nat}:(nU rb b bs ck vis).cO k↔k=rb:=by unfold nU;exact Iff.rfl
theorem aBx:(nU rb b bs ck vis).bB=true:=by unfold nU;rfl
section
variable{P:Program} [eP P]{Q:Exit→Act→World→Prop}{N:Nd}{E:Env}{L L':List Chunk}
variable{dst:Option Tmp}{ty:TypeId}{pos:String}{aft:Array Edge}{gu:Option (Nat×Bool)}
variable{t kt et s1 b1:Nat}{z1:List Value}
theorem aA.range{x:Operand}{C:Env→List Chunk→Prop}(hx:ev E x=some (.map (some b)))(ht:aW P t=some ⟨.map kt et,s1,b1,z1⟩)(hm:Take (mpr b g l bs ck) L L')(hd:cF N dst=true)
  (k:∀rb,C (cD dst (.pointer (some ⟨rb,0,none⟩)) E) (nU rb b bs ck []::L)):aA P Q N ⟨dst, .range t x,ty,pos,aft,gu⟩ E L C:=fun K hK A w hS hM=>by
 obtain⟨es,h1,h2,h3,h4⟩:=BU.1 (BV.1 (hM.has hm));have hr:(execOp A.eval ⟨dst, .range t x,ty,pos,aft,gu⟩).run P w= .ok (.value (.pointer (some ⟨w.heap.size,0,none⟩))) (w.alloc (.mapIter (some b) ck #[] ck)):=by
  simp only[execOp,hS.ev hx,Sem.run_bind,run_range_map w t kt et b es ck (b7 ht).map h1,Result.andThen_ok,Sem.run_pure]
 unfold Oper.wp;rw[hr];refine hK _ _ (k w.heap.size) _ _ (hS.put _ hd) (hM.add ((bV.refl _ _).alloc _) (EG.2 ?_) (fun b hb=>by rw[EF.1 hb];exact cG _));exact heap_alloc_new w _
theorem aA.next{x:Operand}{C:Env→List Chunk→Prop}{F L2:List Chunk}(hx:ev E x=some (.pointer (some ⟨rb,0,none⟩)))(hmr:Take (mpr b g l bs ck) L L2)(hm:Take (nU rb b bs ck vis) L F)(hv:∀j∈vis,j<l.length)(hd:cF N dst=true)
  (k0:(∀i,i<l.length→i∈vis)→C (cD dst (.tuple #[.bool false]) E) L) (k1:∀i p,l[i]?=some p→i∉vis→C (cD dst (.tuple #[.bool true,cA.kv p.1,g p.2]) E) (nU rb b bs ck (vis ++[i])::F)):
  aA P Q N ⟨dst, .next x false,ty,pos,aft,gu⟩ E L C:=fun K hK A w hS hM=>by
 obtain⟨es,h1,h2,h3,h4⟩:=BU.1 (BV.1 (hM.has hmr));have g1:=EG.1 (hM.has hm);have hl:es.toList.length=l.length:=by have:=congrArg List.length h2;simpa using this
 have hbl:bs.length=l.length:=by rw[←h3];simpa using hl
 have hnd:bs.Nodup:=h3▸h4.nd;have hat:∀i (hi:i<es.toList.length),bs.getD i 0=es.toList[i].born:=fun i hi=>by
  rw[←h3,Jd,JU,Je hi];rfl
 have hrun:∀r w',(Instr.next (.pointer (some ⟨rb,0,none⟩)) false ty).run P w= .ok r w'→(execOp A.eval ⟨dst, .next x false,ty,pos,aft,gu⟩).run P w= .ok (.value r) w':=fun r w' h=>by
  simp only[execOp,hS.ev hx,Sem.run_bind,h,Result.andThen_ok,Sem.run_pure]
 unfold Oper.wp;rcases run_next_at (P:=P) w ty rb b ck ck _ es ck g1 h1 h4.lt (cG _)with⟨h0,hr⟩|⟨e,he,w1,hal,hr⟩
 ·rw[hrun _ _ hr];refine hK _ _ (k0 fun i hi=>?_) _ _ (hS.put _ hd) hM;have hs:=all_seen es _ h0 _ (fB (by omega:i<es.toList.length));rw[←hat i (by omega)]at hs;rw[Array.contains_iff_mem,List.mem_toArray,fD]at hs;obtain⟨j,hj,hy⟩:=hs;have hj':=hv j hj;have e:i=j:=by
   have hy:=hy.symm;rw[Jd,Jd,Je (by omega),Je (by omega)]at hy;exact(List.getElem_inj hnd).1 hy
  rw[e];exact hj
 ·rw[hrun _ _ hr];obtain⟨he1,he2⟩:=mem_left he;obtain⟨i,hi,rfl⟩:=mS he1;have hp:(cA.kv (l[i]'(by omega)).1,g (l[i]'(by omega)).2)=(es.toList[i].key,es.toList[i].val):=by
   have:=congrArg (fun x=>x[i]?) h2;simp only[JU,Je hi,Je (show i<l.length by omega),a8,tY]at this;exact this.symm
  have hni:i∉vis:=fun hin=>by
   rw[←hat i hi]at he2;have:(vis.map fun i=>bs.getD i 0).toArray.contains (bs.getD i 0)=true:=by
    rw[Array.contains_iff_mem,List.mem_toArray,fD];exact⟨i,hin,rfl⟩
   rw[this]at he2;cases he2
  have hc:=k1 i _ (Je (show i<l.length by omega)) hni;rw[(Prod.mk.inj hp).1,(Prod.mk.inj hp).2]at hc;have hM1:Mem w1 L:=by rcases hal with rfl|rfl;exact hM;exact hM.drew
  have hb1:w1.heap[rb]?=w.heap[rb]?:=by rcases hal with rfl|rfl<;>rfl
  have hlt:rb<w1.heap.size:=(Array.getElem?_eq_some_iff.1 (hb1.trans g1)).1;refine hK _ _ hc _ _ (hS.put _ hd) ((hM1.take hm).sA (S:=fun i=>i=rb) ⟨rfl,rfl,rfl,by simp[ChangeMaps.setBlock],fun i hi hs=>?_⟩ aBx (fun c hc _=>EF.2 hc) (EG.2 ?_) (fun c hc=> .inl (EF.2 (EF.1 hc))))
  ·simp only[ChangeMaps.setBlock,DB];rw[if_neg (fun h=>hs h.symm)]
  ·simp only[ChangeMaps.setBlock,DB,if_pos hlt,if_true];rw[hat i hi|>.symm];simp
theorem Still.entry{x:Operand}{L2:List Chunk}{i:Nat}{p:κ×α}(hx:ev E x=some (.pointer (some ⟨rb,0,none⟩)))(hmr:Take (mpr b g l bs ck) L L2)(hm:Take (nU rb b bs ck (vis ++[i])) L L')(hp:l[i]?=some p):
  Still P N ⟨dst, .entry x,ty,pos,aft,gu⟩ E L (.tuple #[cA.kv p.1,g p.2]):=fun A w hS hM=>by
 obtain⟨es,h1,h2,h3,h4⟩:=BU.1 (BV.1 (hM.has hmr));have g1:=EG.1 (hM.has hm);have hl:es.toList.length=l.length:=by have:=congrArg List.length h2;simpa using this
 obtain⟨hi,rfl⟩:=tT.1 hp;have hi':i<es.toList.length:=by omega
 have hat:bs.getD i 0=es.toList[i].born:=by
  rw[←h3,Jd,JU,Je hi'];rfl
 have hpp:(cA.kv (l[i]).1,g (l[i]).2)=(es.toList[i].key,es.toList[i].val):=by
  have:=congrArg (fun x=>x[i]?) h2;simp only[JU,Je hi',Je hi,a8,tY]at this;exact this.symm
 have h:=run_entry_at (P:=P) w rb b ck (vis.map fun i=>bs.getD i 0).toArray es ck es.toList[i] (by rw[g1,←hat];simp) h1 (fB hi') h4.nd;rw[(Prod.mk.inj hpp).1,(Prod.mk.inj hpp).2];simp only[execOp,hS.ev hx,Sem.run_bind,h,Result.andThen_ok,Sem.run_pure]
end
end
abbrev nA(v:Value):List PanicEntry:=[{v:=v,recovered:=false}]
section
variable{σ τ:Type}(post:σ→Prop)(val:σ→Value)(mem:σ→List Chunk)(bad:τ→Prop)(why:τ→Value)(memE:τ→List Chunk)
def pN(w0:World)(S:Nat→Prop):Ending→World→Prop:=fun e w'=>
 fZ post val mem w0 S e w'∨∃y,bad y∧e= .panicked (nA (why y))∧(∀c∈memE y,c.bB=true)∧Mem w' (aI w0 S::memE y)
def pC(P:Program)(f:FuncId)(args:Array Value)(R pre:List Chunk):Prop:=
 ∀w,Mem w (R ++pre)→Calls P f args w (pN post val mem bad why memE w (eQ pre))
end
section
variable{P:Program}{Q:Exit→Act→World→Prop}{N:Nd}{E:Env}{L F:List Chunk}
variable{dst:Option Tmp}{ty:TypeId}{pos:String}{aft:Array Edge}{g:Option (Nat×Bool)}
variable{σ τ:Type}{post:σ→Prop}{val:σ→Value}{mem:σ→List Chunk}{bad:τ→Prop}{why:τ→Value}{memE:τ→List Chunk}{f:FuncId}{fn:Func}{c:Code}{R pre:List Chunk}
theorem aA.ZW{x:Operand}{args:List Operand}{dW:Array TypeId}{vs:List Value}{cap:Array Value}{C:Env→List Chunk→Prop}
  (hx:ev E x=some (.func (.func f) #[] cap)) (hv:fX E args vs) (hc:fM P f=true) (hd:cF N dst=true)
  (spec:pC post val mem bad why memE P f (vs.toArray ++cap) R pre) (t:aQ pre L F) (r:∀w,Reads w R F) (hp:∀y,bad y→End Q N (.panic (nA (why y))) E (memE y ++F)) (k:∀s,post s→C (cD dst (val s) E) (mem s ++F)):
  aA P Q N ⟨dst, .call ⟨.value x,args.toArray,dW⟩,ty,pos,aft,g⟩ E L C:=by
 intro K hK a w hs hm;have hr:(execOp a.eval ⟨dst, .call ⟨.value x,args.toArray,dW⟩,ty,pos,aft,g⟩).run P w= .ok (.enter f (vs.toArray ++cap)) w:=by
  have e:args.toArray.map a.eval=vs.toArray:=by rw[←hs.mZ hv];simp
  simp only[execOp,resolve,hs.ev hx,Deferred.ofValue,Sem.run_bind,Sem.run_pure,Result.andThen_ok,e,invoke];rw[xC hc];simp
 unfold Oper.wp;rw[hr,Oper.upon_enter];refine(spec w ((hm.aS t).reads (r w))).mono ?_;rintro e w' (⟨s,h1,rfl,hx,hm'⟩|⟨y,h1,rfl,hx,hm'⟩)
 ·exact hK _ _ (k s h1) _ _ (hs.put _ hd) ((hm.aS t).frame hm' hx)
 ·exact hp y h1 a w' hs ((hm.aS t).frame hm' hx)
theorem aA.panic{x:Operand}{t:TypeId}{v:Value}{C:Env→List Chunk→Prop}(hx:ev E x=some (.iface t v))(h:End Q N (.panic (nA (.iface t v))) E L):aA P Q N ⟨dst, .panic x,ty,pos,aft,g⟩ E L C:=by
 intro K hK a w hs hm;have hr:(execOp a.eval ⟨dst, .panic x,ty,pos,aft,g⟩).run P w= .halt (.panic (.iface t v)) w:=by
  simp only[execOp,hs.ev hx,Instr.panic];rfl
 unfold Oper.wp;rw[hr,Oper.upon_panic];exact h a w hs hm
theorem aE.defer{ops:Array Oper}{l:List Oper}{x:Operand}{args:List Operand}{dW:Array TypeId}{vs:List Value}{cap:Array Value}(hx:ev E x=some (.func (.func f) #[] cap))(hv:fX E args vs)(hd:cF N dst=true)
  (k:aE P ops Q ⟨N.n,{target:= .fn (.func f) cap,args:=vs.toArray}::N.ds⟩ l (cD dst Go.undef E) L):aE P ops Q N (⟨dst, .defer ⟨.value x,args.toArray,dW⟩,ty,pos,aft,none⟩::l) E L:=by
 intro a w hs hm;refine wpList_plain rfl fun K hK=>?_
 have hr:(execOp a.eval ⟨dst, .defer ⟨.value x,args.toArray,dW⟩,ty,pos,aft,none⟩).run P w= .ok (.defer {target:= .fn (.func f) cap,args:=vs.toArray}) w:=by
  have e:args.toArray.map a.eval=vs.toArray:=by rw[←hs.mZ hv];simp
  simp only[execOp,resolve,hs.ev hx,Deferred.ofValue,Sem.run_bind,Sem.run_pure,Result.andThen_ok,e];simp
 unfold Oper.wp;rw[hr,Oper.upon_defer];refine hK _ _ (k _ _ (Sat.put (N:=⟨N.n,{target:= .fn (.func f) cap,args:=vs.toArray}::N.ds⟩) (a:={a with defers:={target:= .fn (.func f) cap,args:=vs.toArray}::a.defers}) ⟨hs.size,by rw[hs.defs],fun d v hv=>hs.slot d v hv⟩ Go.undef ?_) hm);exact hd
theorem End.aGi{K:Act→World→Prop}{ch:List PanicEntry}(h:End Q N (.panic ch) E L):End (Exit.then K Q) N (.panic ch) E L:=h
theorem End.aBm{id:Nat}{ch:List PanicEntry}(h:End Q N (.panic ch) E L):End (Exit.inBlock id Q) N (.panic ch) E L:=h
theorem End.aD6{y:Code}{ch:List PanicEntry}(h:End Q N (.panic ch) E L):End (fE P y Q) N (.panic ch) E L:=by unfold fE;exact h
def mC(P:Program)(fn:Func)(R:Ending→World→Prop):Exit→Act→World→Prop
 | .panic ch,a,w=>∀tmps,Leaves P fn tmps R a.defers (.panicking ch) w
 |e,a,w=>bodyPostD P fn R e a w
theorem aO.mC{R:Ending→World→Prop}:aO (mC P fn R):=fun c a w d v h=>by
 cases d<;>exact h
def fY(P:Program)(fn:Func)(R:Ending→World→Prop)(N:Nd)(u:FrameMode)(E:Env)(L:List Chunk):Prop:=∀a w,Sat N a E→Mem w L→Leaves P fn a.tmps R N.ds u w
def qG(P:Program)(fn:Func)(R:Ending→World→Prop)(ds:List Deferred)(ch:List PanicEntry)(L:List Chunk):Prop:=∀tmps w,Mem w L→Leaves P fn tmps R ds (.panicking ch) w
section
variable{R:Ending→World→Prop}
theorem End.zK(h:fY P fn R N .returning E L):End (mC P fn R) N .ret E L:=fun a w hs hm=>by
 show Leaves P fn a.tmps R a.defers .returning w;rw[hs.defs];exact h a w hs hm
theorem End.aAg(h:fY P fn R N .returning E L):End (mC P fn R) N .normal E L:=fun a w hs hm=>by
 show Leaves P fn a.tmps R a.defers .returning w;rw[hs.defs];exact h a w hs hm
theorem End.TW{ch:List PanicEntry}(h:qG P fn R N.ds ch L):End (mC P fn R) N (.panic ch) E L:=fun a w hs hm=>by
 show∀tmps,Leaves P fn tmps R a.defers (.panicking ch) w;rw[hs.defs];exact fun tmps=>h tmps w hm
theorem fY.one{n:Nat}{t:Tmp}{v:Value}(hr:fn.results= #[.tmp t])(hv:look E t=some v)(h:∀w,Mem w L→R (.returned v) w):fY P fn R ⟨n,[]⟩ .returning E L:=fun a w hs hm=>
 ⟨v,by rw[results_tmp hr];simp[hs.slot t v hv],h w hm⟩
theorem fY.none{n:Nat}(hr:fn.results= #[])(h:∀w,Mem w L→R (.returned (.tuple #[])) w):fY P fn R ⟨n,[]⟩ .returning E L:=fun a w hs hm=>
 ⟨.tuple #[],by rw[results_none hr],h w hm⟩
theorem qG.nil{ch:List PanicEntry}(h:∀w,Mem w L→R (.panicked ch) w):qG P fn R [] ch L:=fun tmps w hm=>h w hm
end
def sI(P:Program)(f:FuncId)(args:Array Value)(R pre:List Chunk)(post:σ→Prop)(mem:σ→List Chunk):Prop:=
 ∀w u,Mem w (R ++pre)→CallsD P f args u w fun e u' w'=>u'=u∧fZ post (fun _=> .tuple #[]) mem w (eQ pre) e w'
theorem sI.enter{args:List Value}(hf:P.funcs[f]?=some fn)(hb:fn.body=some c)(N:Nat)(hN:fn.ntmps=N)(hA:Nat.ble args.length N=true)(hR:∀c∈R,c.bB=false)
  (h:∀w S,aB P (bodyPost P fn (fZ post (fun _=> .tuple #[]) mem w S)) ⟨N,[]⟩ c (first 0 args) (aI w S::(R ++pre))):sI P f args.toArray R pre post mem:=by
 intro w u hm;have hA:=Nat.le_of_ble_eq_true hA;refine callsD_of_wp hf hb ?_;subst hN;exact h w (eQ pre) _ w (BH hA) (zO hR hm)
theorem RS{R':Ending→World→Prop}{tmps:Array Value}{ds:List Deferred}{u:FrameMode}{w:World}{vs cap:Array Value}(hu:u≠ .run)(hu':settle u=u)(hc:fM P f=true)(spec:sI P f (vs ++cap) R pre post mem)
  (t:aQ pre L F) (r:Reads w R F) (hm:Mem w L) (k:∀s,post s→∀w',Mem w' (mem s ++F)→Leaves P fn tmps R' ds u w'):Leaves P fn tmps R' ({target:= .fn (.func f) cap,args:=vs}::ds) u w:=by
 refine leaves_cons hu (xC hc _) ((spec w u ((hm.aS t).reads r)).mono ?_);rintro e u' w' ⟨rfl,s,h1,rfl,hx,hm'⟩;show Leaves P fn tmps R' ds (settle u') w';rw[hu'];exact k s h1 w' ((hm.aS t).frame hm' hx)
section
variable{R':Ending→World→Prop}{n:Nat}{ds:List Deferred}{vs cap:Array Value}
theorem fY.call(hc:fM P f=true)(spec:sI P f (vs ++cap) R pre post mem)(t:aQ pre L F)(r:∀w,Reads w R F)(k:∀s,post s→fY P fn R' ⟨n,ds⟩ .returning E (mem s ++F)):
  fY P fn R' ⟨n,{target:= .fn (.func f) cap,args:=vs}::ds⟩ .returning E L:=fun a w hs hm=>
 RS (by simp) rfl hc spec t (r w) hm fun s hp w' hm'=>k s hp {a with defers:=ds} w' ⟨hs.size,rfl,hs.slot⟩ hm'
theorem qG.call{v:Value}(hc:fM P f=true)(spec:sI P f (vs ++cap) R pre post mem)(t:aQ pre L F)(r:∀w,Reads w R F)(k:∀s,post s→qG P fn R' ds (nA v) (mem s ++F)):
  qG P fn R' ({target:= .fn (.func f) cap,args:=vs}::ds) (nA v) L:=fun tmps w hm=>
 RS (by simp) rfl hc spec t (r w) hm fun s hp w' hm'=>k s hp tmps w' hm'
end
theorem pC.enter{args:List Value}(hf:P.funcs[f]?=some fn)(hb:fn.body=some c)(N:Nat)(hN:fn.ntmps=N)(hA:Nat.ble args.length N=true)(hR:∀c∈R,c.bB=false)
  (h:∀w S,aB P (mC P fn (pN post val mem bad why memE w S)) ⟨N,[]⟩ c (first 0 args) (aI w S::(R ++pre))):pC post val mem bad why memE P f args.toArray R pre:=by
 intro w hm;have hA:=Nat.le_of_ble_eq_true hA;subst hN;exact calls_of_wp_defers hf hb (wp_mono (h w (eQ pre) _ w (BH hA) (zO hR hm)) fun e a w' hq=>by
  cases e<;>first|exact hq|exact hq a.tmps)
end
end
section
open Go Go.RowKit
section
variable{P:Program} [eP P]{Q:Exit→Act→World→Prop}{N:Nd}{E:Env}{L L' F:List Chunk}{ops:Array Oper}
variable{dst:Option Tmp}{ty:TypeId}{pos:String}{aft:Array Edge}{g:Option (Nat×Bool)}{C:Env→List Chunk→Prop}
variable{xT yT:TypeId}{x y:Operand}{a b:List UInt8}
theorem Still.aFG{s' b' i:Nat}{z':List Value}{k:IntKind}{j:Int}(hx:ev E x=some (sv a))(hy:ev E y=some (.int k j))(ht:aW P xT=some ⟨.string,s',b',z'⟩)(hj:j=(i:Int))(hi:i≤a.length):Still P N ⟨dst, .slice xT x (some y) none none,ty,pos,aft,g⟩ E L (sv (a.drop i)):=fun A w hs _=>by
 subst hj;have h:=run_slice_string_l (P:=P) w xT ⟨a.toArray⟩ (b7 ht).string k (i:Int) (by omega) (by rw[vC];omega);rw[ByteArray.extract_mk,Jj,vC,pF (by simp)]at h;have h2:=run_sliceAt_string (P:=P) w xT (sv a) (some (.int k (i:Int))) none none (b7 ht).string;rw[h]at h2;simp only[execOp,hs.ev hx,hs.ev hy,cC,a8,Sem.run_bind,h2,Result.andThen_ok,Sem.run_pure]
theorem ZT(a:List UInt8):a.flatMap uK=a.map (fun b=>Value.int .u8 (b.toNat:Int)):=by
 induction a with
 |nil=>rfl
 |cons c r ih=>rw[vY,eG,ih];rfl
theorem Still.shl{k k':IntKind}{a b z:Int}(hx:ev E x=some (.int k a))(hy:ev E y=some (.int k' b))(hb:0≤b)(hz:k.wrap (a*2^min b.toNat k.bits)=z):Still P N ⟨dst, .binOp .shl xT x y yT,ty,pos,aft,g⟩ E L (.int k z):=fun A w hs _=>by
 subst hz;simp[execOp,hs.ev hx,hs.ev hy,eqGuard,binOp,Op.shift,show¬b<0 by omega]
theorem aA.bytesOf{src d e:TypeId}{s1 b1 s2 b2 s3 b3:Nat}{z1 z2 z3:List Value}(hx:ev E x=some (sv a))(hs:aW P src=some ⟨.string,s1,b1,z1⟩)(hdd:aW P d=some ⟨.slice e,s2,b2,z2⟩)(he:aW P e=some ⟨.int .u8,s3,b3,z3⟩)(ha:a.length≤6000)(hd:cF N dst=true)
  (k:∀ao c,C (cD dst (.slice ao a.length c) E) (rd ao a.length c uK a::L)):aA P Q N ⟨dst, .convert src d x,ty,pos,aft,g⟩ E L C:=fun K hK A w hS hM=>by
 have h:=run_bytes_of_string (P:=P) w src d e ⟨a.toArray⟩ (b7 hs).string (b7 hdd).slice (b7 he).int;rw[vC]at h;have hg:=grownCap_ge w a.length 0 e;unfold Oper.wp;have hr:(execOp A.eval ⟨dst, .convert src d x,ty,pos,aft,g⟩).run P w= .ok (.value (.slice (some ⟨w.heap.size,0,none⟩) a.length (grownCap w a.length 0 e))) (w.drew.alloc (.cells (bytesRow ⟨a.toArray⟩ (grownCap w a.length 0 e)) e ((bytesRow ⟨a.toArray⟩ (grownCap w a.length 0 e)).size,(bytesRow ⟨a.toArray⟩ (grownCap w a.length 0 e)).size+1))):=by
  simp only[execOp,hS.ev hx,Sem.run_bind,h,Result.andThen_ok,Sem.run_pure]
 rw[hr];have hfm:=ZT a;refine hK _ _ (k (some ⟨w.heap.size,0,none⟩) _) _ _ (hS.put _ hd) (hM.add (((bV.refl _ _).drew).alloc _) (kA.2 ⟨⟨?_,?_,_,_,rfl,hg,fun hn=>⟨_,0,rfl,fun j hj=>?_⟩⟩,rfl⟩) (fun b hb=>?_))
 ·rw[hfm];simp[show sz uK=1 from rfl]
 ·unfold maxLen;omega
 ·rw[show sz uK=1 from rfl,Nat.mul_one]at hj;have hlt:j<(bytesRow ⟨a.toArray⟩ (grownCap w a.length 0 e)).size:=by unfold bytesRow;simp;omega
  rw[show(0+j)=j from uD j,hfm];have h2:=World.cell?_alloc_mark w.drew (bytesRow ⟨a.toArray⟩ (grownCap w a.length 0 e)) e ((bytesRow ⟨a.toArray⟩ (grownCap w a.length 0 e)).size,(bytesRow ⟨a.toArray⟩ (grownCap w a.length 0 e)).size+1) j;refine h2.trans ?_;unfold bytesRow;rw[Array.getElem?_append_left (by simp;omega)];simp
 ·have:=(j9.1 hb).1;simp[Value.ownBlock]at this;omega
def yL(P:Program)(t:TypeId):Bool:=match P.underlying t with
 |some (.interface _)=>true
 |_=>false
theorem FT{t:TypeId}(h:yL P t=true)(d:Nat)(v:Value)(hv:v= .nilIface∨∃a b,v= .iface a b)(w:World):(Op.equalIn (d+1) t v .nilIface).run P w= .ok (v matches .nilIface) w:=by
 unfold yL at h
 cases hu:P.underlying t with
 |none=>rw[hu]at h;cases h
 |some u=>
  rw[hu]at h
  cases u<;>simp at h
  rcases hv with rfl|⟨a,b,rfl⟩<;>simp[Op.equalIn,run_underlying hu]
theorem Still.aDN(hx:ev E x=some .nilIface)(ht:yL P xT=true):Still P N ⟨dst, .binOp .neq xT x (.const .nilIface) yT,ty,pos,aft,g⟩ E L (.bool false):=fun A w hs _=>by
 have h:=FT ht 9999 .nilIface (.inl rfl) w;have e:A.eval (.const .nilIface)= .nilIface:=rfl;simp[execOp,hs.ev hx,e,eqGuard_nil_constR,eqGuard,binOp,Op.equal,Op.maxDepth,h]
theorem Still.aDO{c:TypeId}{v:Value}(hx:ev E x=some (.iface c v))(ht:yL P xT=true):Still P N ⟨dst, .binOp .neq xT x (.const .nilIface) yT,ty,pos,aft,g⟩ E L (.bool true):=fun A w hs _=>by
 have h:=FT ht 9999 (.iface c v) (.inr ⟨_,_,rfl⟩) w;have e:A.eval (.const .nilIface)= .nilIface:=rfl;simp[execOp,hs.ev hx,e,eqGuard_nil_constR,eqGuard,binOp,Op.equal,Op.maxDepth,h]
theorem Still.aAj(hx:ev E x=some .nilIface)(ht:yL P xT=true):Still P N ⟨dst, .binOp .eql xT x (.const .nilIface) yT,ty,pos,aft,g⟩ E L (.bool true):=fun A w hs _=>by
 have h:=FT ht 9999 .nilIface (.inl rfl) w;have e:A.eval (.const .nilIface)= .nilIface:=rfl;simp[execOp,hs.ev hx,e,eqGuard_nil_constR,eqGuard,binOp,Op.equal,Op.maxDepth,h]
theorem Still.aAk{c:TypeId}{v:Value}(hx:ev E x=some (.iface c v))(ht:yL P xT=true):Still P N ⟨dst, .binOp .eql xT x (.const .nilIface) yT,ty,pos,aft,g⟩ E L (.bool false):=fun A w hs _=>by
 have h:=FT ht 9999 (.iface c v) (.inr ⟨_,_,rfl⟩) w;have e:A.eval (.const .nilIface)= .nilIface:=rfl;simp[execOp,hs.ev hx,e,eqGuard_nil_constR,eqGuard,binOp,Op.equal,Op.maxDepth,h]
theorem Still.aCt{v:Value}{s b:Nat}{z:List Value}{fs:List (Nat×TypeId)}(hx:ev E x=some v)(ht:aW P xT=some ⟨.struct fs,s,b,z⟩):Still P N ⟨dst, .makeInterface xT x,ty,pos,aft,g⟩ E L (.iface xT v):=fun A w hs _=>by
 obtain⟨l,hl, -⟩:=(b7 ht).struct;simp[execOp,hs.ev hx,Instr.makeInterface,run_underlying hl]
theorem aA.insert{κ:Type}{dκ:DecidableEq κ}{iκ:cA κ}{α:Type}{b:Nat}{f:α→Value}{l:List (κ×α)}{t kt et s1 b1 s2 b2:Nat}{z1 z2:List Value}{x y v:Operand}{key:κ}{kv:Value}{kd:cV}{a:α}
  (hx:ev E x=some (.map (some b))) (hy:ev E y=some kv) (hv:ev E v=some (f a)) (ht:aW P t=some ⟨.map kt et,s1,b1,z1⟩) (hkt:aW P kt=some ⟨kd,s2,b2,z2⟩) (hm:Take (mp b f l) L L') (hk:kv=cA.kv key∧kd=cA.kd κ) (hd:cF N dst=true)
  (k:C (cD dst Go.undef E) (mp b f (iL l key a)::L')):aA P Q N ⟨dst, .insert t x y v,ty,pos,aft,g⟩ E L C:=aA.mapUpdate (ty:=ty) (pos:=pos) (aft:=aft) (gu:=g) hx hy hv ht hkt hm hk hd k
end
section
variable{P:Program} [eP P]{N:Nd}{E:Env}{L L' F:List Chunk}{σ:Type}{fn:Func}{post:σ→Prop}{val:σ→Value}{mem:σ→List Chunk}{w0:World}{S:Nat→Prop}
theorem End.nQ{t u:Tmp}{ty bt:TypeId}{b s' b':Nat}{fs:List (Nat×TypeId)}{z' cs:List Value}{y:Value}(x:σ)(hp:post x)(he:val x= .tuple #[y, .agg cs.toArray])(hr:fn.results= #[.tmp u, .cell t ty]:=by exact rfl)(hu:look E u=Option.some y:=by exact rfl)(hv:look E t=Option.some (.pointer (Option.some ⟨b,0,none⟩)):=by exact rfl)(ht:aW P ty=Option.some ⟨.struct fs,s',b',z'⟩:=by exact rfl)
  (hm:Take (aD b cs bt) L L':=by exact tk) (hl:cs.length=s':=by exact rfl) (hx:∀c∈mem x,c.bB=true:=by exact oQ) (hF:aQ (aI w0 S::mem x) L F:=by exact aK) (hD:N.ds=[]:=by exact rfl):End (bodyPost P fn (fZ post val mem w0 S)) N .ret E L:=fun a w hs hM=>by
 have hb:=jU.1 (hM.has hm);have h1:=hs.slot t _ hv;have h2:=hs.slot u _ hu;refine bodyPost_ret (v:= .tuple #[y, .agg cs.toArray]) ?_ (hs.defs.trans hD) ⟨x,hp,by rw[he],hx,(hM.aS hF).left⟩;simp[results,hr,h1,h2,asAddr,xD ht hb hl]
end
section
variable{κ:Type} [DecidableEq κ] [cA κ]{α:Type}{b:Nat}{g:α→Value}{l:List (κ×α)}
theorem Mem.yX{w:World}{L L':List Chunk}(h:Mem w L)(t:Take (mp b g l) L L'):∃bs ck,Mem w (mpr b g l bs ck::L'):=by
 obtain⟨es,ck,h1,h2,h3⟩:=tA.1 (h.has t);refine⟨es.toList.map (·.born),ck,?_⟩;have hm:=h.take t;have hp:=List.pairwise_cons.1 hm.sep;refine⟨fun c hc=>?_,List.pairwise_cons.2 ⟨fun d hd hx k hk hdk=>?_,hp.2⟩⟩
 ·rcases eB.1 hc with rfl|hc
  ·exact BV.2 (BU.2 ⟨es,h1,h2,rfl,h3⟩)
  ·exact hm.all c (by simp[hc])
 ·exact hp.1 d hd (.inl j6) k (w7.2 (aDC.1 hk)) hdk
theorem aE.yX{P:Program}{ops:Array Oper}{Q:Exit→Act→World→Prop}{N:Nd}{os:List Oper}{E:Env}{L L':List Chunk}(t:Take (mp b g l) L L')(h:∀bs ck,aE P ops Q N os E (mpr b g l bs ck::L')):aE P ops Q N os E L:=fun a w hs hm=>by
 obtain⟨bs,ck,h2⟩:=hm.yX t;exact h bs ck a w hs h2
end
theorem Fs{A:Prop}(h:A:=by(first|exact Js|exact Still.VB rfl rfl (by simp only[Jl,JW,oI];omega) (by(try simp only[Jl,JW,oI]);omega)|(apply Still.sAt;exact rfl;exact rfl;exact rfl;(first|exact BN|exact iK _|exact rfl);(try simp only[JW]);omega)|(apply Still.sTo;exact rfl;exact rfl;exact rfl;(first|exact BN|exact iK _|exact rfl);omega)|(apply Still.aCt;exact rfl;exact rfl)|(apply Still.aDN;exact rfl;kernel_rfl)|(apply Still.aDO;exact rfl;kernel_rfl)|(apply Still.aAj;exact rfl;kernel_rfl)|(apply Still.aAk;exact rfl;kernel_rfl)|(apply Still.aFG;exact rfl;exact rfl;exact rfl;(first|exact(rfl:(1:Int)=((1:Nat):Int))|exact iK _|exact rfl);omega))):A:=h
theorem Fg{A G:Prop}(k:G)(h:Bx G→A:=by intro hk;(first|(apply aE.op;exact rfl;refine aA.b8 (h:=Fs) (k:=?_))|(refine aE.gL (h:=?_);refine aA.b8 (h:=Fs) (k:=?_))|refine aM.b8 (h:=Fs) (k:=?_)|refine aM.gL (h:=Fs) (k:=?_));exact hk.out):A:=h ⟨k⟩
theorem Fy{A G:Prop}(k:G)(h:Bx G→A:=by intro hk;(first|(refine Jo ?_;exact hk.out)|(refine Fg ?_;exact hk.out)|(refine JB ?_;exact hk.out)|(refine JA ?_;exact hk.out))):A:=h ⟨k⟩
end
section
open Go
def zR:List (TypeId×jK):=[
 (1,⟨.other,1,8,[.nilFunc]⟩),
 (2,⟨.int .i64,1,8,[.int .i64 0]⟩),
 (3,⟨.int .i64,1,8,[.int .i64 0]⟩),
 (4,⟨.bool,1,1,[.bool false]⟩),
 (5,⟨.int .u8,1,1,[.int .u8 0]⟩),
 (9,⟨.string,1,16,[.string ⟨#[]⟩]⟩),
 (12,⟨.int .u64,1,8,[.int .u64 0]⟩),
 (15,⟨.pointer 360,1,8,[.pointer none]⟩),
 (16,⟨.pointer 363,1,8,[.pointer none]⟩),
 (17,⟨.pointer 370,1,8,[.pointer none]⟩),
 (20,⟨.other,1,16,[.nilIface]⟩),
 (21,⟨.int .i32,1,4,[.int .i32 0]⟩),
 (22,⟨.other,1,8,[.nilFunc]⟩),
 (23,⟨.slice 91,1,24,[.slice none 0 0]⟩),
 (24,⟨.slice 88,1,24,[.slice none 0 0]⟩),
 (25,⟨.struct [(0,23),(1,24)],2,48,[.slice none 0 0, .slice none 0 0]⟩),
 (26,⟨.struct [(0,23),(1,24)],2,48,[.slice none 0 0, .slice none 0 0]⟩),
 (28,⟨.other,1,8,[.nilFunc]⟩),
 (29,⟨.slice 46,1,24,[.slice none 0 0]⟩),
 (30,⟨.slice 39,1,24,[.slice none 0 0]⟩),
 (31,⟨.struct [(0,29),(1,30),(2,3)],3,56,[.slice none 0 0, .slice none 0 0, .int .i64 0]⟩),
 (32,⟨.struct [(0,29),(1,30),(2,3)],3,56,[.slice none 0 0, .slice none 0 0, .int .i64 0]⟩),
 (33,⟨.int .i64,1,8,[.int .i64 0]⟩),
 (35,⟨.other,1,8,[.nilFunc]⟩),
 (36,⟨.slice 3,1,24,[.slice none 0 0]⟩),
 (37,⟨.other,1,8,[.nilFunc]⟩),
 (38,⟨.slice 41,1,24,[.slice none 0 0]⟩),
 (39,⟨.slice 2,1,24,[.slice none 0 0]⟩),
 (40,⟨.struct [(0,3),(1,3),(2,3),(3,39),(4,30),(5,36),(6,3)],7,104,[.int .i64 0, .int .i64 0, .int .i64 0, .slice none 0 0, .slice none 0 0, .slice none 0 0, .int .i64 0]⟩),
 (41,⟨.struct [(0,3),(1,3),(2,3),(3,39),(4,30),(5,36),(6,3)],7,104,[.int .i64 0, .int .i64 0, .int .i64 0, .slice none 0 0, .slice none 0 0, .slice none 0 0, .int .i64 0]⟩),
 (43,⟨.other,1,8,[.nilFunc]⟩),
 (44,⟨.other,1,8,[.nilFunc]⟩),
 (45,⟨.struct [(0,3),(1,3),(2,3),(3,39)],4,48,[.int .i64 0, .int .i64 0, .int .i64 0, .slice none 0 0]⟩),
 (46,⟨.struct [(0,3),(1,3),(2,3),(3,39)],4,48,[.int .i64 0, .int .i64 0, .int .i64 0, .slice none 0 0]⟩),
 (47,⟨.other,1,8,[.nilFunc]⟩),
 (48,⟨.other,1,8,[.nilFunc]⟩),
 (49,⟨.slice 80,1,24,[.slice none 0 0]⟩),
 (50,⟨.struct [(0,33),(1,3),(2,3)],3,24,[.int .i64 0, .int .i64 0, .int .i64 0]⟩),
 (51,⟨.struct [(0,33),(1,3),(2,3)],3,24,[.int .i64 0, .int .i64 0, .int .i64 0]⟩),
 (53,⟨.other,1,8,[.nilFunc]⟩),
 (54,⟨.other,1,8,[.nilFunc]⟩),
 (55,⟨.other,1,8,[.nilFunc]⟩),
 (56,⟨.slice 5,1,24,[.slice none 0 0]⟩),
 (58,⟨.other,1,8,[.nilFunc]⟩),
 (60,⟨.other,1,8,[.nilFunc]⟩),
 (61,⟨.other,1,8,[.nilFunc]⟩),
 (62,⟨.other,1,8,[.nilFunc]⟩),
 (63,⟨.slice 82,1,24,[.slice none 0 0]⟩),
 (65,⟨.other,1,8,[.nilFunc]⟩),
 (66,⟨.other,1,8,[.nilFunc]⟩),
 (67,⟨.other,1,8,[.nilFunc]⟩),
 (68,⟨.slice 145,1,24,[.slice none 0 0]⟩),
 (69,⟨.struct [(0,33),(1,3)],2,16,[.int .i64 0, .int .i64 0]⟩),
 (70,⟨.struct [(0,33),(1,3)],2,16,[.int .i64 0, .int .i64 0]⟩),
 (72,⟨.other,1,8,[.nilFunc]⟩),
 (74,⟨.other,1,8,[.nilFunc]⟩),
 (75,⟨.other,1,8,[.nilFunc]⟩),
 (76,⟨.pointer 160,1,8,[.pointer none]⟩),
 (77,⟨.other,1,8,[.nilFunc]⟩),
 (78,⟨.pointer 26,1,8,[.pointer none]⟩),
 (79,⟨.struct [(0,3),(1,3)],2,16,[.int .i64 0, .int .i64 0]⟩),
 (80,⟨.struct [(0,3),(1,3)],2,16,[.int .i64 0, .int .i64 0]⟩),
 (81,⟨.struct [(0,33),(1,3)],2,16,[.int .i64 0, .int .i64 0]⟩),
 (82,⟨.struct [(0,33),(1,3)],2,16,[.int .i64 0, .int .i64 0]⟩),
 (83,⟨.other,1,8,[.nilFunc]⟩),
 (84,⟨.other,1,8,[.nilFunc]⟩),
 (85,⟨.other,1,8,[.nilFunc]⟩),
 (86,⟨.slice 113,1,24,[.slice none 0 0]⟩),
 (87,⟨.struct [(0,3),(1,3),(2,36),(3,3),(4,3),(5,86)],6,80,[.int .i64 0, .int .i64 0, .slice none 0 0, .int .i64 0, .int .i64 0, .slice none 0 0]⟩),
 (88,⟨.struct [(0,3),(1,3),(2,36),(3,3),(4,3),(5,86)],6,80,[.int .i64 0, .int .i64 0, .slice none 0 0, .int .i64 0, .int .i64 0, .slice none 0 0]⟩),
 (89,⟨.other,1,8,[.nilFunc]⟩),
 (90,⟨.struct [(0,3),(1,3)],2,16,[.int .i64 0, .int .i64 0]⟩),
 (91,⟨.struct [(0,3),(1,3)],2,16,[.int .i64 0, .int .i64 0]⟩),
 (92,⟨.pointer 94,1,8,[.pointer none]⟩),
 (93,⟨.struct [(0,30),(1,36),(2,30)],3,72,[.slice none 0 0, .slice none 0 0, .slice none 0 0]⟩),
 (94,⟨.struct [(0,30),(1,36),(2,30)],3,72,[.slice none 0 0, .slice none 0 0, .slice none 0 0]⟩),
 (95,⟨.pointer 103,1,8,[.pointer none]⟩),
 (96,⟨.other,1,8,[.nilFunc]⟩),
 (97,⟨.other,1,16,[.nilIface]⟩),
 (98,⟨.other,1,16,[.nilIface]⟩),
 (99,⟨.slice 100,1,24,[.slice none 0 0]⟩),
 (100,⟨.pointer 168,1,8,[.pointer none]⟩),
 (101,⟨.other,1,8,[.nilFunc]⟩),
 (102,⟨.struct [(0,78),(1,98),(2,99),(3,100),(4,3),(5,3),(6,3),(7,39),(8,101)],9,112,[.pointer none, .nilIface, .slice none 0 0, .pointer none, .int .i64 0, .int .i64 0, .int .i64 0, .slice none 0 0, .nilFunc]⟩),
 (103,⟨.struct [(0,78),(1,98),(2,99),(3,100),(4,3),(5,3),(6,3),(7,39),(8,101)],9,112,[.pointer none, .nilIface, .slice none 0 0, .pointer none, .int .i64 0, .int .i64 0, .int .i64 0, .slice none 0 0, .nilFunc]⟩),
 (104,⟨.other,1,8,[.nilFunc]⟩),
 (105,⟨.other,1,8,[.nilFunc]⟩),
 (106,⟨.other,1,8,[.nilFunc]⟩),
 (107,⟨.pointer 109,1,8,[.pointer none]⟩),
 (108,⟨.struct [(0,56)],1,24,[.slice none 0 0]⟩),
 (109,⟨.struct [(0,56)],1,24,[.slice none 0 0]⟩),
 (110,⟨.other,1,8,[.nilFunc]⟩),
 (111,⟨.other,1,8,[.nilFunc]⟩),
 (112,⟨.struct [(0,3),(1,3),(2,2)],3,24,[.int .i64 0, .int .i64 0, .int .i64 0]⟩),
 (113,⟨.struct [(0,3),(1,3),(2,2)],3,24,[.int .i64 0, .int .i64 0, .int .i64 0]⟩),
 (114,⟨.other,1,8,[.nilFunc]⟩),
 (115,⟨.int .u16,1,2,[.int .u16 0]⟩),
 (116,⟨.other,1,8,[.nilFunc]⟩),
 (117,⟨.int .u64,1,8,[.int .u64 0]⟩),
 (118,⟨.struct [],0,0,[]⟩),
 (119,⟨.struct [],0,0,[]⟩),
 (120,⟨.pointer 121,1,8,[.pointer none]⟩),
 (121,⟨.struct [(0,56)],1,24,[.slice none 0 0]⟩),
 (122,⟨.other,1,8,[.nilFunc]⟩),
 (123,⟨.other,1,8,[.nilFunc]⟩),
 (124,⟨.other,1,8,[.nilFunc]⟩),
 (125,⟨.other,1,8,[.nilFunc]⟩),
 (126,⟨.pointer 128,1,8,[.pointer none]⟩),
 (127,⟨.struct [(0,78)],1,8,[.pointer none]⟩),
 (128,⟨.struct [(0,78)],1,8,[.pointer none]⟩),
 (129,⟨.other,1,8,[.nilFunc]⟩),
 (130,⟨.other,1,8,[.nilFunc]⟩),
 (131,⟨.slice 202,1,24,[.slice none 0 0]⟩),
 (133,⟨.other,1,8,[.nilFunc]⟩),
 (134,⟨.struct [(0,70)],2,16,[.int .i64 0, .int .i64 0]⟩),
 (135,⟨.struct [(0,70)],2,16,[.int .i64 0, .int .i64 0]⟩),
 (136,⟨.pointer 138,1,8,[.pointer none]⟩),
 (137,⟨.struct [(0,131),(1,3),(2,3)],3,40,[.slice none 0 0, .int .i64 0, .int .i64 0]⟩),
 (138,⟨.struct [(0,131),(1,3),(2,3)],3,40,[.slice none 0 0, .int .i64 0, .int .i64 0]⟩),
 (139,⟨.other,1,8,[.nilFunc]⟩),
 (140,⟨.struct [(0,3),(1,9)],2,24,[.int .i64 0, .string ⟨#[]⟩]⟩),
 (141,⟨.struct [(0,3),(1,9)],2,24,[.int .i64 0, .string ⟨#[]⟩]⟩),
 (142,⟨.slice 227,1,24,[.slice none 0 0]⟩),
 (143,⟨.slice 259,1,24,[.slice none 0 0]⟩),
 (144,⟨.struct [(0,3),(1,9),(2,141),(4,141),(6,3),(7,142),(8,143)],9,128,[.int .i64 0, .string ⟨#[]⟩, .int .i64 0, .string ⟨#[]⟩, .int .i64 0, .string ⟨#[]⟩, .int .i64 0, .slice none 0 0, .slice none 0 0]⟩),
 (145,⟨.struct [(0,3),(1,9),(2,141),(4,141),(6,3),(7,142),(8,143)],9,128,[.int .i64 0, .string ⟨#[]⟩, .int .i64 0, .string ⟨#[]⟩, .int .i64 0, .string ⟨#[]⟩, .int .i64 0, .slice none 0 0, .slice none 0 0]⟩),
 (146,⟨.other,1,8,[.nilFunc]⟩),
 (147,⟨.other,1,8,[.nilFunc]⟩),
 (148,⟨.pointer 152,1,8,[.pointer none]⟩),
 (149,⟨.map 9 3,1,8,[.map none]⟩),
 (150,⟨.map 9 153,1,8,[.map none]⟩),
 (151,⟨.struct [(0,149),(1,149),(2,150)],3,24,[.map none, .map none, .map none]⟩),
 (152,⟨.struct [(0,149),(1,149),(2,150)],3,24,[.map none, .map none, .map none]⟩),
 (153,⟨.pointer 145,1,8,[.pointer none]⟩),
 (154,⟨.other,1,8,[.nilFunc]⟩),
 (155,⟨.other,1,8,[.nilFunc]⟩),
 (156,⟨.slice 95,1,24,[.slice none 0 0]⟩),
 (157,⟨.slice 161,1,24,[.slice none 0 0]⟩),
 (158,⟨.slice 161,1,24,[.slice none 0 0]⟩),
 (159,⟨.struct [(0,156),(1,158),(2,3)],3,56,[.slice none 0 0, .slice none 0 0, .int .i64 0]⟩),
 (160,⟨.struct [(0,156),(1,158),(2,3)],3,56,[.slice none 0 0, .slice none 0 0, .int .i64 0]⟩),
 (161,⟨.pointer 232,1,8,[.pointer none]⟩),
 (162,⟨.other,1,8,[.nilFunc]⟩),
 (163,⟨.other,1,8,[.nilFunc]⟩),
 (164,⟨.other,1,8,[.nilFunc]⟩),
 (165,⟨.slice 171,1,24,[.slice none 0 0]⟩),
 (166,⟨.pointer 236,1,8,[.pointer none]⟩),
 (167,⟨.struct [(0,3),(1,100),(2,165),(3,166)],4,48,[.int .i64 0, .pointer none, .slice none 0 0, .pointer none]⟩),
 (168,⟨.struct [(0,3),(1,100),(2,165),(3,166)],4,48,[.int .i64 0, .pointer none, .slice none 0 0, .pointer none]⟩),
 (169,⟨.pointer 171,1,8,[.pointer none]⟩),
 (170,⟨.struct [(0,3),(1,3),(2,3)],3,24,[.int .i64 0, .int .i64 0, .int .i64 0]⟩),
 (171,⟨.struct [(0,3),(1,3),(2,3)],3,24,[.int .i64 0, .int .i64 0, .int .i64 0]⟩),
 (172,⟨.other,1,8,[.nilFunc]⟩),
 (173,⟨.other,1,8,[.nilFunc]⟩),
 (174,⟨.pointer 2,1,8,[.pointer none]⟩),
 (175,⟨.other,1,8,[.nilFunc]⟩),
 (176,⟨.other,1,8,[.nilFunc]⟩),
 (177,⟨.other,1,8,[.nilFunc]⟩),
 (178,⟨.other,1,8,[.nilFunc]⟩),
 (179,⟨.other,1,8,[.nilFunc]⟩),
 (180,⟨.other,1,8,[.nilFunc]⟩),
 (181,⟨.other,1,8,[.nilFunc]⟩),
 (183,⟨.other,1,8,[.nilFunc]⟩),
 (184,⟨.int .u64,1,8,[.int .u64 0]⟩),
 (185,⟨.other,1,8,[.nilFunc]⟩),
 (186,⟨.pointer 88,1,8,[.pointer none]⟩),
 (187,⟨.other,1,8,[.nilFunc]⟩),
 (188,⟨.other,1,8,[.nilFunc]⟩),
 (189,⟨.pointer 195,1,8,[.pointer none]⟩),
 (190,⟨.map 3 193,1,8,[.map none]⟩),
 (191,⟨.slice 4,1,24,[.slice none 0 0]⟩),
 (192,⟨.struct [(0,36),(1,191)],2,48,[.slice none 0 0, .slice none 0 0]⟩),
 (193,⟨.struct [(0,36),(1,191)],2,48,[.slice none 0 0, .slice none 0 0]⟩),
 (194,⟨.struct [(0,126),(1,186),(2,190),(3,36),(4,193),(6,33)],7,104,[.pointer none, .pointer none, .map none, .slice none 0 0, .slice none 0 0, .slice none 0 0, .int .i64 0]⟩),
 (195,⟨.struct [(0,126),(1,186),(2,190),(3,36),(4,193),(6,33)],7,104,[.pointer none, .pointer none, .map none, .slice none 0 0, .slice none 0 0, .slice none 0 0, .int .i64 0]⟩),
 (196,⟨.other,1,8,[.nilFunc]⟩),
 (197,⟨.other,1,8,[.nilFunc]⟩),
 (198,⟨.other,1,8,[.nilFunc]⟩),
 (199,⟨.other,1,8,[.nilFunc]⟩),
 (200,⟨.other,1,8,[.nilFunc]⟩),
 (201,⟨.struct [(0,3),(1,9),(2,2),(3,3)],4,40,[.int .i64 0, .string ⟨#[]⟩, .int .i64 0, .int .i64 0]⟩),
 (202,⟨.struct [(0,3),(1,9),(2,2),(3,3)],4,40,[.int .i64 0, .string ⟨#[]⟩, .int .i64 0, .int .i64 0]⟩),
 (203,⟨.other,1,8,[.nilFunc]⟩),
 (204,⟨.other,1,8,[.nilFunc]⟩),
 (205,⟨.other,1,16,[.nilIface]⟩),
 (206,⟨.other,1,16,[.nilIface]⟩),
 (208,⟨.other,1,8,[.nilFunc]⟩),
 (209,⟨.other,1,8,[.nilFunc]⟩),
 (210,⟨.other,1,8,[.nilFunc]⟩),
 (211,⟨.other,1,8,[.nilFunc]⟩),
 (212,⟨.other,1,8,[.nilFunc]⟩),
 (213,⟨.other,1,8,[.nilFunc]⟩),
 (214,⟨.other,1,8,[.nilFunc]⟩),
 (215,⟨.pointer 217,1,8,[.pointer none]⟩),
 (216,⟨.struct [(0,3)],1,8,[.int .i64 0]⟩),
 (217,⟨.struct [(0,3)],1,8,[.int .i64 0]⟩),
 (218,⟨.other,1,8,[.nilFunc]⟩),
 (219,⟨.slice 272,1,24,[.slice none 0 0]⟩),
 (221,⟨.other,1,8,[.nilFunc]⟩),
 (222,⟨.pointer 225,1,8,[.pointer none]⟩),
 (223,⟨.slice 149,1,24,[.slice none 0 0]⟩),
 (224,⟨.struct [(0,148),(1,88),(7,223)],8,112,[.pointer none, .int .i64 0, .int .i64 0, .slice none 0 0, .int .i64 0, .int .i64 0, .slice none 0 0, .slice none 0 0]⟩),
 (225,⟨.struct [(0,148),(1,88),(7,223)],8,112,[.pointer none, .int .i64 0, .int .i64 0, .slice none 0 0, .int .i64 0, .int .i64 0, .slice none 0 0, .slice none 0 0]⟩),
 (226,⟨.struct [(0,9),(1,141)],3,40,[.string ⟨#[]⟩, .int .i64 0, .string ⟨#[]⟩]⟩),
 (227,⟨.struct [(0,9),(1,141)],3,40,[.string ⟨#[]⟩, .int .i64 0, .string ⟨#[]⟩]⟩),
 (228,⟨.other,1,8,[.nilFunc]⟩),
 (229,⟨.other,1,8,[.nilFunc]⟩),
 (230,⟨.other,1,8,[.nilFunc]⟩),
 (231,⟨.struct [(0,39),(1,3),(2,3)],3,40,[.slice none 0 0, .int .i64 0, .int .i64 0]⟩),
 (232,⟨.struct [(0,39),(1,3),(2,3)],3,40,[.slice none 0 0, .int .i64 0, .int .i64 0]⟩),
 (233,⟨.other,1,8,[.nilFunc]⟩),
 (234,⟨.other,1,8,[.nilFunc]⟩),
 (235,⟨.struct [(0,39),(1,3),(2,3),(3,3)],4,48,[.slice none 0 0, .int .i64 0, .int .i64 0, .int .i64 0]⟩),
 (236,⟨.struct [(0,39),(1,3),(2,3),(3,3)],4,48,[.slice none 0 0, .int .i64 0, .int .i64 0, .int .i64 0]⟩),
 (237,⟨.other,1,8,[.nilFunc]⟩),
 (238,⟨.other,1,8,[.nilFunc]⟩),
 (239,⟨.other,1,8,[.nilFunc]⟩),
 (240,⟨.map 3 4,1,8,[.map none]⟩),
 (241,⟨.other,1,8,[.nilFunc]⟩),
 (243,⟨.other,1,8,[.nilFunc]⟩),
 (244,⟨.other,1,8,[.nilFunc]⟩),
 (245,⟨.other,1,8,[.nilFunc]⟩),
 (247,⟨.other,1,8,[.nilFunc]⟩),
 (248,⟨.other,1,8,[.nilFunc]⟩),
 (249,⟨.other,1,8,[.nilFunc]⟩),
 (250,⟨.other,1,8,[.nilFunc]⟩),
 (251,⟨.other,1,8,[.nilFunc]⟩),
 (252,⟨.slice 9,1,24,[.slice none 0 0]⟩),
 (253,⟨.other,1,8,[.nilFunc]⟩),
 (254,⟨.other,1,8,[.nilFunc]⟩),
 (255,⟨.slice 257,1,24,[.slice none 0 0]⟩),
 (256,⟨.struct [(0,3),(1,2),(2,9),(3,255)],4,56,[.int .i64 0, .int .i64 0, .string ⟨#[]⟩, .slice none 0 0]⟩),
 (257,⟨.struct [(0,3),(1,2),(2,9),(3,255)],4,56,[.int .i64 0, .int .i64 0, .string ⟨#[]⟩, .slice none 0 0]⟩),
 (258,⟨.struct [(0,3),(1,9),(2,257),(6,143),(7,143)],8,128,[.int .i64 0, .string ⟨#[]⟩, .int .i64 0, .int .i64 0, .string ⟨#[]⟩, .slice none 0 0, .slice none 0 0, .slice none 0 0]⟩),
 (259,⟨.struct [(0,3),(1,9),(2,257),(6,143),(7,143)],8,128,[.int .i64 0, .string ⟨#[]⟩, .int .i64 0, .int .i64 0, .string ⟨#[]⟩, .slice none 0 0, .slice none 0 0, .slice none 0 0]⟩),
 (260,⟨.other,1,8,[.nilFunc]⟩),
 (261,⟨.other,1,8,[.nilFunc]⟩),
 (262,⟨.other,1,8,[.nilFunc]⟩),
 (263,⟨.other,1,8,[.nilFunc]⟩),
 (264,⟨.pointer 293,1,8,[.pointer none]⟩),
 (266,⟨.other,1,8,[.nilFunc]⟩),
 (267,⟨.map 9 269,1,8,[.map none]⟩),
 (268,⟨.struct [(0,252),(1,252),(2,252)],3,72,[.slice none 0 0, .slice none 0 0, .slice none 0 0]⟩),
 (269,⟨.struct [(0,252),(1,252),(2,252)],3,72,[.slice none 0 0, .slice none 0 0, .slice none 0 0]⟩),
 (270,⟨.other,1,8,[.nilFunc]⟩),
 (271,⟨.struct [(0,9),(1,9),(2,9)],3,48,[.string ⟨#[]⟩, .string ⟨#[]⟩, .string ⟨#[]⟩]⟩),
 (272,⟨.struct [(0,9),(1,9),(2,9)],3,48,[.string ⟨#[]⟩, .string ⟨#[]⟩, .string ⟨#[]⟩]⟩),
 (273,⟨.pointer 9,1,8,[.pointer none]⟩),
 (274,⟨.struct [(0,252),(1,273)],2,32,[.slice none 0 0, .pointer none]⟩),
 (275,⟨.slice 274,1,24,[.slice none 0 0]⟩),
 (276,⟨.other,1,8,[.nilFunc]⟩),
 (277,⟨.other,1,8,[.nilFunc]⟩),
 (278,⟨.pointer 259,1,8,[.pointer none]⟩),
 (279,⟨.other,1,8,[.nilFunc]⟩),
 (280,⟨.other,1,8,[.nilFunc]⟩),
 (281,⟨.other,1,8,[.nilFunc]⟩),
 (282,⟨.other,1,8,[.nilFunc]⟩),
 (283,⟨.other,1,8,[.nilFunc]⟩),
 (286,⟨.other,1,8,[.nilFunc]⟩),
 (287,⟨.pointer 305,1,8,[.pointer none]⟩),
 (288,⟨.other,1,8,[.nilFunc]⟩),
 (289,⟨.other,1,8,[.nilFunc]⟩),
 (290,⟨.other,1,8,[.nilFunc]⟩),
 (291,⟨.other,1,8,[.nilFunc]⟩),
 (292,⟨.struct [(0,68),(1,150)],2,32,[.slice none 0 0, .map none]⟩),
 (293,⟨.struct [(0,68),(1,150)],2,32,[.slice none 0 0, .map none]⟩),
 (295,⟨.slice 218,1,24,[.slice none 0 0]⟩),
 (296,⟨.slice 153,1,24,[.slice none 0 0]⟩),
 (297,⟨.other,1,8,[.nilFunc]⟩),
 (298,⟨.other,1,8,[.nilFunc]⟩),
 (299,⟨.pointer 257,1,8,[.pointer none]⟩),
 (301,⟨.other,1,8,[.nilFunc]⟩),
 (302,⟨.other,1,8,[.nilFunc]⟩),
 (303,⟨.other,1,8,[.nilFunc]⟩),
 (304,⟨.struct [(0,9),(1,9),(2,206)],3,48,[.string ⟨#[]⟩, .string ⟨#[]⟩, .nilIface]⟩),
 (305,⟨.struct [(0,9),(1,9),(2,206)],3,48,[.string ⟨#[]⟩, .string ⟨#[]⟩, .nilIface]⟩),
 (306,⟨.other,1,8,[.nilFunc]⟩),
 (307,⟨.other,1,8,[.nilFunc]⟩),
 (308,⟨.other,1,8,[.nilFunc]⟩),
 (309,⟨.other,1,8,[.nilFunc]⟩),
 (310,⟨.other,1,8,[.nilFunc]⟩),
 (311,⟨.other,1,8,[.nilFunc]⟩),
 (312,⟨.pointer 316,1,8,[.pointer none]⟩),
 (313,⟨.map 9 141,1,8,[.map none]⟩),
 (314,⟨.slice 313,1,24,[.slice none 0 0]⟩),
 (315,⟨.struct [(0,264),(1,153),(2,314)],3,40,[.pointer none, .pointer none, .slice none 0 0]⟩),
 (316,⟨.struct [(0,264),(1,153),(2,314)],3,40,[.pointer none, .pointer none, .slice none 0 0]⟩),
 (317,⟨.other,1,8,[.nilFunc]⟩),
 (318,⟨.other,1,8,[.nilFunc]⟩),
 (319,⟨.pointer 269,1,8,[.pointer none]⟩),
 (320,⟨.other,1,8,[.nilFunc]⟩),
 (322,⟨.pointer 5,1,8,[.pointer none]⟩),
 (323,⟨.pointer 325,1,8,[.pointer none]⟩),
 (324,⟨.struct [(0,9)],1,16,[.string ⟨#[]⟩]⟩),
 (325,⟨.struct [(0,9)],1,16,[.string ⟨#[]⟩]⟩),
 (326,⟨.slice 329,1,24,[.slice none 0 0]⟩),
 (327,⟨.other,1,8,[.nilFunc]⟩),
 (328,⟨.struct [(0,149),(1,4)],2,16,[.map none, .bool false]⟩),
 (329,⟨.struct [(0,149),(1,4)],2,16,[.map none, .bool false]⟩),
 (330,⟨.other,1,8,[.nilFunc]⟩),
 (331,⟨.other,1,8,[.nilFunc]⟩),
 (332,⟨.other,1,8,[.nilFunc]⟩),
 (333,⟨.other,1,8,[.nilFunc]⟩),
 (335,⟨.other,1,8,[.nilFunc]⟩),
 (337,⟨.other,1,8,[.nilFunc]⟩),
 (338,⟨.other,1,8,[.nilFunc]⟩),
 (340,⟨.other,1,8,[.nilFunc]⟩),
 (341,⟨.other,1,8,[.nilFunc]⟩),
 (343,⟨.other,1,8,[.nilFunc]⟩),
 (344,⟨.int .u32,1,4,[.int .u32 0]⟩),
 (346,⟨.other,1,8,[.nilFunc]⟩),
 (347,⟨.other,1,8,[.nilFunc]⟩),
 (348,⟨.other,1,8,[.nilFunc]⟩),
 (350,⟨.other,1,8,[.nilFunc]⟩),
 (351,⟨.other,1,8,[.nilFunc]⟩),
 (352,⟨.other,1,8,[.nilFunc]⟩),
 (355,⟨.other,1,8,[.nilFunc]⟩),
 (356,⟨.other,1,8,[.nilFunc]⟩),
 (366,⟨.other,1,8,[.nilFunc]⟩),
 (369,⟨.struct [(0,12),(1,12),(2,344),(3,364),(4,5),(5,5),(6,365),(7,366),(8,322),(9,367),(10,368)],11,48,[.int .u64 0, .int .u64 0, .int .u32 0, .int .u8 0, .int .u8 0, .int .u8 0, .int .u8 0, .nilFunc, .pointer none, .int .i32 0, .int .i32 0]⟩)
]
theorem aG7:∀p∈zR,iI Tryz.prog p.1 p.2:=by
 unfold zR
 repeat(refine AT.2 ⟨⟨by kernel_rfl,by kernel_rfl⟩,?_⟩)
 simp
instance:eP Tryz.prog:=⟨zR,aG7⟩
end
end Go.Proofs.YtofckcabpchcmaaGreatDoor
