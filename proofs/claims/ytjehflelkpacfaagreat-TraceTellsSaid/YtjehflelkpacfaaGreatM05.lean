/- More rules for walks: two operations of a region that may come in either order, closures, slices against nil. Of whatever program. -/
import Derived.Test.YtjehflelkpacfaaGreatM04
import Derived.Lib.SliceRun
set_option linter.unusedVariables false
set_option linter.unusedSimpArgs false
set_option linter.unusedSectionVars false
set_option maxRecDepth 100000
namespace Go.Proofs.YtjehflelkpacfaaGreat
open Go
@[irreducible] def Nxt (P : Program) (y : Code) (Q : Exit → Act → World → Prop) : Exit → Act → World → Prop := Exit.then (y.wp P Q) Q
section
variable{P:Program}{y x:Code}{Q:Exit→Act→World→Prop}{N id:Nat}{E:Env}{L:List Chunk}
theorem Cod.seqN(h:Cod P (Nxt P y Q) N x E L):Cod P Q N (.seq x y) E L:=fun a w hs hm=>wp_seq (by have:=h a w hs hm;unfold Nxt at this;exact this)
theorem End.seqN(h:Cod P Q N y E L):End (Nxt P y Q) N .normal E L:=fun a w hs hm=>by unfold Nxt;exact h a w hs hm
theorem End.nxt_exit(h:End Q N (.exit id) E L):End (Nxt P y Q) N (.exit id) E L:=fun a w hs hm=>by unfold Nxt;exact h a w hs hm
theorem End.nxt_ret(h:End Q N .ret E L):End (Nxt P y Q) N .ret E L:=fun a w hs hm=>by unfold Nxt;exact h a w hs hm
theorem PutOk.nxt(h:PutOk Q):PutOk (Nxt P y Q):=by unfold Nxt;exact h
theorem cutN{c:Code}{σ:Type}(ok:σ→Prop)(inv:σ→Env)(mem:σ→List Chunk)
  (h2:∀s,ok s→Cod P Q N y (inv s) (mem s)) (h1:∀K':Act→World→Prop,(∀s,ok s→∀a w,Sat N a (inv s)→Mem w (mem s)→K' a w)→Cod P (Exit.inBlock id (Exit.then K' Q)) N c E L):Cod P (Exit.inBlock id (Nxt P y Q)) N c E L:=by
 unfold Nxt;exact h1 _ (fun s hs a w ha hm=>h2 s hs a w ha hm)
end
section
variable{P:Program}{ops:Array Oper}{Q:Exit→Act→World→Prop}{N e:Nat}{LT:List Chunk}{E:Env}{L F:List Chunk}{fuel:Nat}{listed:Array Bool}
theorem RunT.two(i j:Nat){o o':Oper}(hr:Region.ready .any ops listed=[i,j])(ho:ops[i]?=some o)(hg:o.guard=none)(ho':ops[j]?=some o')(hg':o'.guard=none)
  (h:OpT P Q N o E L (fun E' L'=>Good e LT (listed.setIfInBounds i true) L'∧RunT P ops Q N e LT fuel (listed.setIfInBounds i true) E' L'))
  (h':OpT P Q N o' E L (fun E' L'=>Good e LT (listed.setIfInBounds j true) L'∧RunT P ops Q N e LT fuel (listed.setIfInBounds j true) E' L')):RunT P ops Q N e LT (fuel+1) listed E L:=
 fun a w hs hM=>by
  refine⟨fun h0=>(by rw[h0]at hr;cases hr),fun k hk=>?_⟩;rw[hr]at hk;have hk':k=i∨k=j:=by simpa using hk
  rcases hk' with rfl|rfl
  ·exact wpOp_step ho fun K' hK'=>by
    rw[if_pos (by simp[Region.wanted,hg])];exact h K' (fun E' L' hc a w hs hm=>hK' a w ⟨hc.1.imp id fun⟨F,t⟩=>(hm.takes t).left,hc.2 a w hs hm⟩) a w hs hM
  ·exact wpOp_step ho' fun K' hK'=>by
    rw[if_pos (by simp[Region.wanted,hg'])];exact h' K' (fun E' L' hc a w hs hm=>hK' a w ⟨hc.1.imp id fun⟨F,t⟩=>(hm.takes t).left,hc.2 a w hs hm⟩) a w hs hM
end
def quietO(o:Oper):Bool:=match o.op with
 | .move _| .assign _| .pick .. | .load .. | .nilCheck _| .binOp .. | .unOp .. | .convert .. | .fieldAddr .. | .field .. | .indexAddr .. | .index .. | .lookup .. | .extract .. | .build .. | .makeFunc .. | .makeInterface .. =>true
 | .call ⟨.builtin .len,_,_⟩=>true
 |_=>false
def splitW:List Oper→List Oper×List Oper
 |[]=>([],[])
 |o::r=>if quietO o then(o::(splitW r).1,(splitW r).2)else([],o::r)
theorem splitW_eq:∀l:List Oper,(splitW l).1=l.take (splitW l).1.length∧(splitW l).2=l.drop (splitW l).1.length
 |[]=>⟨rfl,rfl⟩
 |o::r=>by
  unfold splitW
  split
  ·obtain⟨h1,h2⟩:=splitW_eq r;exact⟨by simp only[List.length_cons,List.take_succ_cons];rw[←h1],by simp only[List.length_cons,List.drop_succ_cons];exact h2⟩
  ·exact⟨rfl,rfl⟩
theorem Cod.quietA{P:Program}{Q:Exit→Act→World→Prop}{N id:Nat}{E:Env}{L:List Chunk}{l:List Oper}(hq:l.all quietO=true)(hm:P.follows .mixedOrders=true)(hB:Region.lexB .any l.toArray=true)(h:RunQ P l.toArray Q N l E L):Cod P Q N (.region id l.toArray true) E L:=Cod.quiet hm hB h
def RunS(P:Program)(ops:Array Oper)(rest:List Oper)(Q:Exit→Act→World→Prop)(N:Nat)(l:List Oper)(E:Env)(L:List Chunk):Prop:=
 ∀a w,Sat N a E→Mem w L→wpStill P ops w (fun a'=>wpList P ops Q rest a' w) l a
section
variable{P:Program}{ops:Array Oper}{rest:List Oper}{Q:Exit→Act→World→Prop}{N:Nat}{E:Env}{L:List Chunk}
theorem Cod.tail{id:Nat}{l:List Oper}(hne:(splitW l).2.isEmpty=false)(hm:P.follows .mixedOrders=true)(hB:Region.lexTailB .any l.toArray (splitW l).1.length=true)(h:RunS P l.toArray (splitW l).2 Q N (splitW l).1 E L):Cod P Q N (.region id l.toArray true) E L:=fun a w hs hM=>by
 refine wp_region_still_tail _ hm hB ?_;have:=h a w.drew hs hM.drew;rw[(splitW_eq l).1,(splitW_eq l).2]at this;exact this
theorem RunS.nil(h:Run P ops Q N rest E L):RunS P ops rest Q N [] E L:=fun a w hs hM=>wpStill_nil (h a w hs hM)
theorem still_val{o:Oper}{a:Act}{w:World}{v:Value}{K:Act→Prop}(h:(execOp a.eval o).run P w= .ok (.value v) w)(hn:K (a.put o.dst v)):o.still P a w K:=by
 unfold Oper.still;rw[h,Oper.stillUpon_value];exact hn
theorem RunS.val{d:Tmp}{op:Op}{ty:TypeId}{pos:String}{aft:Array Edge}{l:List Oper}{v:Value}(h:Still P N ⟨some d,op,ty,pos,aft,none⟩ E L v)(hd:Nat.blt d N=true)(k:RunS P ops rest Q N l ((d,v)::E) L):RunS P ops rest Q N (⟨some d,op,ty,pos,aft,none⟩::l) E L:=by
 intro a w hs hM;refine wpStill_step fun K hK=>?_
 rw[if_pos (by simp[Region.wanted])];exact still_val (h a w hs hM) (hK _ (k _ w (hs.put (dst:=some d) v hd) hM))
theorem RunS.yes{d:Tmp}{op:Op}{ty:TypeId}{pos:String}{aft:Array Edge}{l:List Oper}{v:Value}{j:Nat}{want:Bool}(hgd:gd ops E j=some (.bool want))(h:Still P N ⟨some d,op,ty,pos,aft,some (j,want)⟩ E L v)(hd:Nat.blt d N=true)(k:RunS P ops rest Q N l ((d,v)::E) L):RunS P ops rest Q N (⟨some d,op,ty,pos,aft,some (j,want)⟩::l) E L:=by
 intro a w hs hM;refine wpStill_step fun K hK=>?_
 rw[wanted_of hs rfl hgd,if_pos (by simp)];exact still_val (h a w hs hM) (hK _ (k _ w (hs.put (dst:=some d) v hd) hM))
theorem RunS.no{d:Tmp}{op:Op}{ty:TypeId}{pos:String}{aft:Array Edge}{l:List Oper}{j:Nat}{want t:Bool}(hgd:gd ops E j=some (.bool t))(hne:(t==want)=false)(hd:Nat.blt d N=true)(k:RunS P ops rest Q N l ((d,Go.undef)::E) L):RunS P ops rest Q N (⟨some d,op,ty,pos,aft,some (j,want)⟩::l) E L:=by
 intro a w hs hM;refine wpStill_step fun K hK=>?_
 rw[wanted_of hs rfl hgd,hne];exact hK _ (k _ w (hs.put (dst:=some d) Go.undef hd) hM)
theorem RunS.undef{d:Tmp}{op:Op}{ty:TypeId}{pos:String}{aft:Array Edge}{l:List Oper}{j:Nat}{want:Bool}(hgd:gd ops E j=some Go.undef)(hd:Nat.blt d N=true)(k:RunS P ops rest Q N l ((d,Go.undef)::E) L):RunS P ops rest Q N (⟨some d,op,ty,pos,aft,some (j,want)⟩::l) E L:=by
 intro a w hs hM;refine wpStill_step fun K hK=>?_
 have:Region.wanted ⟨some d,op,ty,pos,aft,some (j,want)⟩ (yielded ops a.tmps)=false:=by
  unfold Region.wanted;simp only[yielded_gd hs hgd,Go.undef];rfl
 rw[this];exact hK _ (k _ w (hs.put (dst:=some d) Go.undef hd) hM)
variable{d0 d:Tmp}{op:Op}{ty:TypeId}{pos:String}{aft:Array Edge}{l:List Oper}{j:Nat}{want t:Bool}
theorem RunS.knowT(hj:slot ops j=some d)(hl:look E d=some (.bool t))(ht:t=true)(k:RunS P ops rest Q N (⟨some d0,op,ty,pos,aft,some (j,want)⟩::l) ((d, .bool true)::E) L):RunS P ops rest Q N (⟨some d0,op,ty,pos,aft,some (j,want)⟩::l) E L:=
 fun a w hs hM=>k a w (hs.sub' (ht▸hl)) hM
theorem RunS.knowF(hj:slot ops j=some d)(hl:look E d=some (.bool t))(ht:t=false)(k:RunS P ops rest Q N (⟨some d0,op,ty,pos,aft,some (j,want)⟩::l) ((d, .bool false)::E) L):RunS P ops rest Q N (⟨some d0,op,ty,pos,aft,some (j,want)⟩::l) E L:=
 fun a w hs hM=>k a w (hs.sub' (ht▸hl)) hM
theorem RunS.ask(hj:slot ops j=some d)(hl:look E d=some (.bool t))(h1:t=true→RunS P ops rest Q N (⟨some d0,op,ty,pos,aft,some (j,want)⟩::l) ((d, .bool true)::E) L)(h2:t=false→RunS P ops rest Q N (⟨some d0,op,ty,pos,aft,some (j,want)⟩::l) ((d, .bool false)::E) L):RunS P ops rest Q N (⟨some d0,op,ty,pos,aft,some (j,want)⟩::l) E L:=fun a w hs hM=>by
 cases t with
 |true=>exact h1 rfl a w (hs.sub' hl) hM
 |false=>exact h2 rfl a w (hs.sub' hl) hM
end
section
variable{P:Program} [Tabbed P]{Q:Exit→Act→World→Prop}{N:Nat}{E:Env}{L L':List Chunk}
variable{dst:Option Tmp}{ty:TypeId}{pos:String}{aft:Array Edge}{g:Option (Nat×Bool)}
theorem Still.eqlNil{xT yT e:TypeId}{x y:Operand}{ao:Option Addr}{n c n' c' s' b':Nat}{z':List Value}(hx:ev E x=some (.slice ao n c))(hy:ev E y=some (.slice none n' c'))(ht:tyOf P xT=some ⟨.slice e,s',b',z'⟩):
  Still P N ⟨dst, .binOp .eql xT x y yT,ty,pos,aft,g⟩ E L (.bool ao.isNone):=fun A w hs _=>by
 have:=Lib.run_eql_slice_nil (P:=P) w xT e ao n c n' c' (tyOk ht).slice;simp[execOp,hs.ev hx,hs.ev hy,eqGuard,this]
theorem run_equalNilP{P:Program}{t e:TypeId}(h:P.underlying t=some (.pointer e))(d:Nat)(a:Option Addr)(w:World):(Op.equalIn (d+1) t (.pointer a) (.pointer none)).run P w= .ok a.isNone w:=by
 cases a<;>simp[Op.equalIn,run_underlying h]
theorem run_neqNilP{P:Program}{t e:TypeId}(h:P.underlying t=some (.pointer e))(a:Option Addr)(w:World):(binOp .neq t (.pointer a) (.pointer none)).run P w= .ok (.bool a.isSome) w:=by
 simp only[binOp]
 cases a<;>simp[Op.equal,Op.maxDepth,run_equalNilP h 9999]
theorem run_eqlNilP{P:Program}{t e:TypeId}(h:P.underlying t=some (.pointer e))(a:Option Addr)(w:World):(binOp .eql t (.pointer a) (.pointer none)).run P w= .ok (.bool a.isNone) w:=by
 simp only[binOp];simp[Op.equal,Op.maxDepth,run_equalNilP h 9999]
theorem Still.neqNilP{xT yT e:TypeId}{x y:Operand}{a:Option Addr}{s' b':Nat}{z':List Value}(hx:ev E x=some (.pointer a))(hy:ev E y=some (.pointer none))(ht:tyOf P xT=some ⟨.pointer e,s',b',z'⟩):
  Still P N ⟨dst, .binOp .neq xT x y yT,ty,pos,aft,g⟩ E L (.bool a.isSome):=fun A w hs _=>by
 simp[execOp,hs.ev hx,hs.ev hy,eqGuard,run_neqNilP (tyOk ht).pointer]
theorem Still.eqlNilP{xT yT e:TypeId}{x y:Operand}{a:Option Addr}{s' b':Nat}{z':List Value}(hx:ev E x=some (.pointer a))(hy:ev E y=some (.pointer none))(ht:tyOf P xT=some ⟨.pointer e,s',b',z'⟩):
  Still P N ⟨dst, .binOp .eql xT x y yT,ty,pos,aft,g⟩ E L (.bool a.isNone):=fun A w hs _=>by
 simp[execOp,hs.ev hx,hs.ev hy,eqGuard,run_eqlNilP (tyOk ht).pointer]
def fnB(P:Program)(t:TypeId):Bool:=match P.underlying t with
 |some (.func ..)=>true
 |_=>false
theorem run_equalFn{t:TypeId}(h:fnB P t=true)(d:Nat)(v:Value)(hv:v= .nilFunc∨∃fn a b,v= .func fn a b)(w:World):(Op.equalIn (d+1) t v .nilFunc).run P w= .ok (v matches .nilFunc) w:=by
 unfold fnB at h
 cases hu:P.underlying t with
 |none=>rw[hu]at h;cases h
 |some u=>
  rw[hu]at h
  cases u<;>simp at h
  rcases hv with rfl|⟨fn,a,b,rfl⟩<;>simp[Op.equalIn,run_underlying hu]
theorem Still.neqFn{xT yT:TypeId}{x y:Operand}{fn:Go.Fn}{a b:Array Value}(hx:ev E x=some (.func fn a b))(hy:ev E y=some .nilFunc)(ht:fnB P xT=true):
  Still P N ⟨dst, .binOp .neq xT x y yT,ty,pos,aft,g⟩ E L (.bool true):=fun A w hs _=>by
 have:=run_equalFn ht 9999 (.func fn a b) (.inr ⟨_,_,_,rfl⟩) w;simp only[execOp,hs.ev hx,hs.ev hy,eqGuard,binOp,Op.equal,Op.maxDepth];simp[this]
theorem Still.neqFnNil{xT yT:TypeId}{x y:Operand}(hx:ev E x=some .nilFunc)(hy:ev E y=some .nilFunc)(ht:fnB P xT=true):
  Still P N ⟨dst, .binOp .neq xT x y yT,ty,pos,aft,g⟩ E L (.bool false):=fun A w hs _=>by
 have:=run_equalFn ht 9999 .nilFunc (.inl rfl) w;simp only[execOp,hs.ev hx,hs.ev hy,eqGuard,binOp,Op.equal,Op.maxDepth];simp[this]
def flatB(P:Program)(t:TypeId):Bool:=match P.underlying t with
 |some (.func ..)=>true
 |some (.interface _)=>true
 |_=>false
theorem isAgg_flat{t:TypeId}(h:flatB P t=true)(w:World):(Go.isAgg t).run P w= .ok false w:=by
 unfold flatB at h
 cases hu:P.underlying t with
 |none=>rw[hu]at h;cases h
 |some u=>
  rw[hu]at h;unfold Go.isAgg;rw[Sem.run_bind,run_underlying hu w]
  cases u<;>simp at h<;>simp
theorem Still.loadF{x:Operand}{t bt:TypeId}{b i:Nat}{cs:List Value}{v:Value}{L':List Chunk}(hx:ev E x=some (.pointer (some ⟨b,i,none⟩)))(ht:flatB P t=true)
  (hm:Take (blk b cs bt) L L') (hv:cs[i]?=some v):Still P N ⟨dst, .load t x,ty,pos,aft,g⟩ E L v:=fun A w hs hM=>by
 have hb:=blk_holds.1 (hM.has hm);have hc:w.cell? ⟨b,i,none⟩=some v:=by rw[hb.cell];simpa using hv
 simp[execOp,hs.ev hx,Instr.loadAt,Instr.sureAddr,loadVar,isAgg_flat ht,load,hc]
theorem Still.makeFunc{fn:Go.Fn}{first captured:List Operand}{vs us:List Value}(h1:Evs E first vs)(h2:Evs E captured us):
  Still P N ⟨dst, .makeFunc fn first.toArray captured.toArray,ty,pos,aft,g⟩ E L (.func fn vs.toArray us.toArray):=fun A w hs _=>by
 have e1:first.toArray.map A.eval=vs.toArray:=by rw[←hs.evs h1];simp
 have e2:captured.toArray.map A.eval=us.toArray:=by rw[←hs.evs h2];simp
 simp only[execOp,Instr.makeFunc,e1,e2,Sem.run_bind,Sem.run_pure,Result.andThen_ok]
end
theorem Takes.all(L:List Chunk):Takes L L []:=by
 induction L with
 |nil=>exact .nil
 |cons c r ih=>exact .cons .head ih
theorem Takes.skip{c:Chunk}{cs L F:List Chunk}(h:Takes cs L F):Takes cs (c::L) (c::F):=by
 induction h generalizing c with
 |nil=>exact .nil
 |cons h1 _ ih=>exact .cons (.tail h1) ih
theorem Take.of_mem{c:Chunk}:∀{L:List Chunk},c∈L→∃L',Take c L L'
 |d::L,h=>by
  rcases List.mem_cons.1 h with rfl|h
  ·exact⟨L, .head⟩
  ·obtain⟨L',t⟩:=Take.of_mem h;exact⟨d::L', .tail t⟩
theorem Takes.of_perm:∀{cs L F:List Chunk},L.Perm (cs ++F)→∃F',Takes cs L F'∧F'.Perm F
 |[],L,F,p=>⟨L, .nil,p⟩
 |c::cs,L,F,p=>by
  obtain⟨L',t⟩:=Take.of_mem (p.mem_iff.2 (by simp:c∈c::cs ++F));have p2:L'.Perm (cs ++F):=List.Perm.cons_inv (t.perm.symm.trans p);obtain⟨F',t2,p3⟩:=Takes.of_perm p2;exact⟨F', .cons t t2,p3⟩
theorem Takes.back{a b c:Chunk}{pre:List Chunk}:Takes (a::b::c::pre) (pre ++[a,b,c]) []:=by
 obtain⟨F',t,p⟩:=Takes.of_perm (cs:=a::b::c::pre) (L:=pre ++[a,b,c]) (F:=[]) (by simpa using List.perm_append_comm (l₁:=pre) (l₂:=[a,b,c]));rwa [List.Perm.eq_nil p]at t
theorem Takes.back1{a b c:Chunk}{pre:List Chunk}:Takes (a::pre) (pre ++[a,b,c]) [b,c]:=by
 have h:∀pre:List Chunk,Takes pre (pre ++[b,c]) [b,c]:=by
  intro pre
  induction pre with
  |nil=>exact .nil
  |cons d r ih=>exact .cons .head ih
 have t:Take a (pre ++[a,b,c]) (pre ++[b,c]):=by
  induction pre with
  |nil=>exact .head
  |cons d r ih=>exact .tail ih
 exact .cons t (h pre)
theorem Reads.any{w:World}{r:Chunk}{R F F':List Chunk}(t:Take r F F')(hx:r.excl=false)(h:Reads w R F):Reads w (r::R) F:= .cons t hx (fun h=>⟨h,fun _ hb=>hb⟩) h
theorem Reads.blk{w:World}{α:Type}{iα:Inhabited α}{f:α→List Value}{ef:Enc f}{b n:Nat}{cs:List Value}{e:TypeId}{l:List α}{R F F':List Chunk}(t:Take (Proofs.YtjehflelkpacfaaGreat.blk b cs e) F F')(hc:cs=l.flatMap f)(hn:l.length=n)(hm:n≤9223372036854775807)(h:Reads w R F):
  Reads w (Proofs.YtjehflelkpacfaaGreat.rd (some ⟨b,0,none⟩) n n f l::R) F:= .cons t rd_excl (fun h=>⟨rd_holds.2 ⟨by
   have:=Row.of_blk (size:=sz f) (n:=n) (blk_holds.1 h) (by rw[hc,List.size_toArray,flatMap_len,hn]) hm;rwa [←hc],hn⟩,fun b' hb=>blk_foot.2 (by have:=(rd_foot.1 hb).1;simp[Value.ownBlock]at this;exact this.symm)⟩) h
theorem Take.eq{c d:Chunk}{L:List Chunk}(h:c=d):Take c (d::L) L:=h▸ .head
theorem Take.blkEq{b:Nat}{cs cs':List Value}{t:TypeId}{L:List Chunk}(h:cs=cs'):Take (blk b cs t) (blk b cs' t::L) L:=h▸ .head
theorem Take.arrEq{α:Type}{iα:Inhabited α}{ao:Option Addr}{n n' cap:Nat}{e:TypeId}{f:α→List Value}{ef:Enc f}{l l':List α}{L:List Chunk}(h:n=n')(h2:l=l'):Take (arr ao n cap e f l) (arr ao n' cap e f l'::L) L:=by subst h h2;exact .head
section
variable{σ:Type}
theorem Mem.bagOut{w:World}{cs ds es L L':List Chunk}(h:Mem w L)(t:Take (bag cs) L L')(p:cs.Perm (ds ++es)):Mem w (ds ++(bag es::L')):=by
 have hb:=bag_holds.1 (h.has t);have h1:Mem w (cs ++L'):=(h.take t).unpack;have h2:Mem w (es ++(ds ++L')):=h1.perm ((List.Perm.append_right _ (p.trans List.perm_append_comm)).trans (by rw[List.append_assoc]));have h3:=h2.pack (fun c hc=>hb.2 c (p.mem_iff.2 (by simp[hc])));exact h3.perm (List.perm_middle.symm)
theorem Mem.bagIn{w:World}{cs ds es L L' F:List Chunk}(h:Mem w L)(t:Take (bag es) L L')(t2:Takes ds L' F)(p:cs.Perm (ds ++es))(hx:∀c∈ds,c.excl=true):Mem w (bag cs::F):=by
 have hb:=bag_holds.1 (h.has t);have h1:Mem w (es ++L'):=(h.take t).unpack;have h2:Mem w (es ++(ds ++F)):=h1.perm (List.Perm.append_left _ t2.perm);have h3:Mem w (cs ++F):=by
  refine h2.perm ?_;rw[←List.append_assoc];exact List.Perm.append_right _ (List.perm_append_comm.trans p.symm)
 exact h3.pack (fun c hc=>by
  rcases List.mem_append.1 (p.mem_iff.1 hc)with h|h
  ·exact hx c h
  ·exact hb.2 c h)
theorem Reads.bag{w:World}{α:Type}{iα:Inhabited α}{ao:Option Addr}{n cap:Nat}{e:TypeId}{f:α→List Value}{ef:Enc f}{l:List α}{cs R F F':List Chunk}(t:Take (Proofs.YtjehflelkpacfaaGreat.bag cs) F F')(hm:Proofs.YtjehflelkpacfaaGreat.arr ao n cap e f l∈cs)(h:Reads w R F):
  Reads w (Proofs.YtjehflelkpacfaaGreat.rd ao n cap f l::R) F:= .cons t rd_excl (fun hb=>by
   have ha:=arr_holds.1 ((bag_holds.1 hb).1.all _ hm);exact⟨rd_holds.2 ⟨ha.1.row Enc.pos,ha.2⟩,fun b hb=>bag_foot.2 ⟨_,hm,arr_foot.2 ⟨(rd_foot.1 hb).1,Nat.lt_of_lt_of_le (rd_foot.1 hb).2 ha.1.le⟩⟩⟩) h
theorem mp_congr{α:Type}{b:Nat}{g:α→Value}{l l':List (Int×α)}{w:World}{L L':List Chunk}(h:Mem w L)(t:Take (mp b g l) L L')(e:l.map (fun p=>(Value.int .i64 p.1,g p.2))=l'.map (fun p=>(Value.int .i64 p.1,g p.2))):Mem w (mp b g l'::L'):=by
 obtain⟨es,clock,h1,h2⟩:=mp_holds.1 (h.has t);exact(h.take t).turn (S:=Nil) (Keeps.refl _ _) mp_excl (fun _ h _=>h.elim) (mp_holds.2 ⟨es,clock,h1,h2.trans e⟩) (fun c hc=> .inl (mp_foot.2 (mp_foot.1 hc)))
theorem Rdb.bag{α:Type}{iα:Inhabited α}{ao:Option Addr}{n cap:Nat}{e:TypeId}{f:α→List Value}{ef:Enc f}{l:List α}{cs L L':List Chunk}(t:Take (Proofs.YtjehflelkpacfaaGreat.bag cs) L L')(h:Proofs.YtjehflelkpacfaaGreat.arr ao n cap e f l∈cs):Rdb L ao n cap f l:=fun w hm=>by
 have hb:=bag_holds.1 (hm.has t);have ha:=arr_holds.1 (hb.1.all _ h);exact⟨ha.1.row Enc.pos,ha.2⟩
end
end Go.Proofs.YtjehflelkpacfaaGreat
namespace Go.Proofs.YtjehflelkpacfaaGreat.ImgM
structure Ins where
 op:Int
 a:Int
 n:Int
structure Unt where
 kind:Int
 params:Int
 locals:List Int
 result:Int
 takes:Int
 code:List Ins
structure Mdl where
 boxes:List (Int×Int)
 units:List Unt
def zig(n:Int):Nat:=if n<0 then(-2*n-1).toNat else(2*n).toNat
def In64(n:Int):Prop:= -9223372036854775808≤n∧n≤9223372036854775807
def leb(x:Nat):List Nat:=if x<128 then [x]else(x % 128+128)::leb (x/128)
termination_by x
decreasing_by omega
def num(n:Int):List Nat:=leb (zig n)
def nums(l:List Int):List Nat:=l.flatMap num
def insN(i:Ins):List Int:=[i.op,i.a,i.n]
def codeN(l:List Ins):List Int:=l.flatMap insN
def untN(u:Unt):List Int:=[u.kind,u.params] ++((u.locals.length:Int)::u.locals) ++[u.result,u.takes,(u.code.length:Int)] ++codeN u.code
def boxN(b:Int×Int):List Int:=[b.1,b.2]
def mdlN(m:Mdl):List Int:=(m.boxes.length:Int)::m.boxes.flatMap boxN ++(m.units.length:Int)::m.units.flatMap untN
def body(m:Mdl):List Nat:=nums (mdlN m)
instance:Inhabited Ins:=⟨⟨0,0,0⟩⟩
instance:Inhabited Unt:=⟨⟨0,0,[],0,0,[]⟩⟩
def bit1(y:BitVec 16):BitVec 16:=if y.toNat/32768=1 then(y<<<1)^^^4129#16 else y<<<1
def bitN:Nat→BitVec 16→BitVec 16
 |0,x=>x
 |n+1,x=>bit1 (bitN n x)
def byte1(x:BitVec 16)(c:Nat):BitVec 16:=bitN 8 (x^^^BitVec.ofNat 16 (c*256))
def crcFrom(x:BitVec 16)(l:List Nat):BitVec 16:=l.foldl byte1 x
def crc(l:List Nat):Nat:=(crcFrom 65535#16 l).toNat
def bytes(m:Mdl):List Nat:=body m ++[crc (body m)/256,crc (body m) % 256]
end Go.Proofs.YtjehflelkpacfaaGreat.ImgM
namespace Go.Proofs.YtjehflelkpacfaaGreat.Img
open Go.RowKit
def i64s(l:List Int):List Value:=l.map (Value.int .i64)
def insC(i:ImgM.Ins):List Value:=[.int .i64 i.op, .int .i64 i.a, .int .i64 i.n]
def codeC(l:List ImgM.Ins):List Value:=l.flatMap insC
def boxC(b:Int×Int):List Value:=[.int .i64 b.1, .int .i64 b.2]
def boxesC(l:List (Int×Int)):List Value:=l.flatMap boxC
def UntAt(w:World)(cs:List Value)(u:ImgM.Unt):Prop:=
 ∃lv cv,cs=[.int .i64 u.kind, .int .i64 u.params,lv, .int .i64 u.result, .int .i64 u.takes,cv]∧Row w lv 1 u.locals.length (i64s u.locals)∧Row w cv 3 u.code.length (codeC u.code)
theorem UntAt.keep{w w':World}{cs:List Value}{u:ImgM.Unt}(h:UntAt w cs u)(k:Keeps Nil w w'):UntAt w' cs u:=by
 obtain⟨lv,cv,rfl,h1,h2⟩:=h;exact⟨lv,cv,rfl,h1.keep k (fun _ _ h=>h),h2.keep k (fun _ _ h=>h)⟩
def ModAt(w:World)(v:Value)(M:ImgM.Mdl):Prop:=
 ∃bv uv ucs,v= .agg #[bv,uv]∧Row w bv 2 M.boxes.length (boxesC M.boxes)∧Row w uv 6 M.units.length ucs∧∀k,k<M.units.length→UntAt w ((ucs.drop (k*6)).take 6) (M.units.getD k default)
theorem ModAt.keep{w w':World}{v:Value}{M:ImgM.Mdl}(h:ModAt w v M)(k:Keeps Nil w w'):ModAt w' v M:=by
 obtain⟨bv,uv,ucs,rfl,h1,h2,h3⟩:=h;exact⟨bv,uv,ucs,rfl,h1.keep k (fun _ _ h=>h),h2.keep k (fun _ _ h=>h),fun i hi=>(h3 i hi).keep k⟩
structure Wf(M:ImgM.Mdl):Prop where
 nums:∀n∈ImgM.mdlN M,ImgM.In64 n
end Go.Proofs.YtjehflelkpacfaaGreat.Img
namespace Go.Proofs.YtjehflelkpacfaaGreat
open Go.RowKit Go.Proofs.YtjehflelkpacfaaGreat.Img
instance:Enc boxC:=⟨fun _=>rfl,by decide,fun a u hu=>by simp[boxC]at hu;rcases hu with rfl|rfl<;>rfl⟩
instance:Enc insC:=⟨fun _=>rfl,by decide,fun a u hu=>by simp[insC]at hu;rcases hu with rfl|rfl|rfl<;>rfl⟩
structure UC where
 u:ImgM.Unt
 lo:Option Addr
 lc:Nat
 co:Option Addr
 cc:Nat
instance:Inhabited UC:=⟨⟨default,none,0,none,0⟩⟩
def ucell(x:UC):List Value:=[.int .i64 x.u.kind, .int .i64 x.u.params, .slice x.lo x.u.locals.length x.lc, .int .i64 x.u.result, .int .i64 x.u.takes, .slice x.co x.u.code.length x.cc]
instance:Enc ucell:=⟨fun _=>rfl,by decide,fun a u hu=>by simp[ucell]at hu;rcases hu with rfl|rfl|rfl|rfl|rfl|rfl<;>rfl⟩
structure ML where
 bx:List (Int×Int)
 bo:Option Addr
 bc:Nat
 us:List UC
 uo:Option Addr
 uc:Nat
instance:Inhabited ML:=⟨⟨[],none,0,[],none,0⟩⟩
abbrev ML.mdl(m:ML):ImgM.Mdl:=⟨m.bx,m.us.map (·.u)⟩
abbrev ML.val(m:ML):Value:= .agg #[.slice m.bo m.bx.length m.bc, .slice m.uo m.us.length m.uc]
abbrev ML.uat(m:ML)(k:Nat):UC:=m.us.getD k default
theorem getD_u(l:List UC)(k:Nat):(l.map (·.u)).getD k default=(l.getD k default).u:=by
 simp only[List.getD_eq_getElem?_getD,List.getElem?_map]
 cases l[k]?<;>rfl
theorem ML.unit_at(m:ML)(k:Nat):m.mdl.units.getD k default=(m.us.getD k default).u:=getD_u m.us k
structure MdAt(w:World)(m:ML):Prop where
 boxes:Row w (.slice m.bo m.bx.length m.bc) (sz boxC) m.bx.length (m.bx.flatMap boxC)
 units:Row w (.slice m.uo m.us.length m.uc) (sz ucell) m.us.length (m.us.flatMap ucell)
 locals:∀x∈m.us,Row w (.slice x.lo x.u.locals.length x.lc) (sz i64c) x.u.locals.length (x.u.locals.flatMap i64c)
 code:∀x∈m.us,Row w (.slice x.co x.u.code.length x.cc) (sz insC) x.u.code.length (x.u.code.flatMap insC)
def MdFoot(m:ML)(k:Nat):Prop:=
 ((Value.slice m.bo m.bx.length m.bc).ownBlock=some k∧0<m.bx.length)∨((Value.slice m.uo m.us.length m.uc).ownBlock=some k∧0<m.us.length)∨
 ∃x∈m.us,((Value.slice x.lo x.u.locals.length x.lc).ownBlock=some k∧0<x.u.locals.length)∨((Value.slice x.co x.u.code.length x.cc).ownBlock=some k∧0<x.u.code.length)
theorem MdAt.keep{w w':World}{m:ML}(h:MdAt w m){S:Nat→Prop}(k:Keeps S w w')(hs:∀b,MdFoot m b→¬S b):MdAt w' m:=
 ⟨h.boxes.keep'' Enc.pos k (fun b h1 h2=>hs b (.inl ⟨h1,h2⟩)),h.units.keep'' Enc.pos k (fun b h1 h2=>hs b (.inr (.inl ⟨h1,h2⟩))),
  fun x hx=>(h.locals x hx).keep'' Enc.pos k (fun b h1 h2=>hs b (.inr (.inr ⟨x,hx, .inl ⟨h1,h2⟩⟩))),fun x hx=>(h.code x hx).keep'' Enc.pos k (fun b h1 h2=>hs b (.inr (.inr ⟨x,hx, .inr ⟨h1,h2⟩⟩)))⟩
theorem MdAt.lt{w:World}{m:ML}(h:MdAt w m):∀b,MdFoot m b→b<w.heap.size:=by
 rintro b (⟨h1,h2⟩|⟨h1,h2⟩|⟨x,hx,⟨h1,h2⟩|⟨h1,h2⟩⟩)
 ·exact h.boxes.lt' Enc.pos h2 b h1
 ·exact h.units.lt' Enc.pos h2 b h1
 ·exact(h.locals x hx).lt' Enc.pos h2 b h1
 ·exact(h.code x hx).lt' Enc.pos h2 b h1
@[irreducible] def md (m : ML) : Chunk where
 holds w:=MdAt w m
 foot:=MdFoot m
 excl:=false
 stab k hs h:=h.keep k hs
 lt h:=h.lt
theorem md_holds{w:World}{m:ML}:(md m).holds w↔MdAt w m:=by unfold md;exact Iff.rfl
theorem md_foot{m:ML}{k:Nat}:(md m).foot k↔MdFoot m k:=by unfold md;exact Iff.rfl
theorem md_excl{m:ML}:(md m).excl=false:=by unfold md;rfl
structure ML.Small(m:ML):Prop where
 bx:m.bx.length≤9223372036854775807
 us:m.us.length≤9223372036854775807
 lo:∀k,k<m.us.length→(m.us.getD k default).u.locals.length≤9223372036854775807
 co:∀k,k<m.us.length→(m.us.getD k default).u.code.length≤9223372036854775807
theorem ML.uat_mem{m:ML}{k:Nat}(hk:k<m.us.length):m.us.getD k default∈m.us:=by
 simp only[ML.uat,List.getD_eq_getElem?_getD,List.getElem?_eq_getElem hk,Option.getD_some];exact List.getElem_mem hk
theorem MdAt.small{w:World}{m:ML}(h:MdAt w m):m.Small:=
 ⟨h.boxes.2.1,h.units.2.1,fun k hk=>(h.locals _ (ML.uat_mem hk)).2.1,fun k hk=>(h.code _ (ML.uat_mem hk)).2.1⟩
structure UWf(u:ImgM.Unt):Prop where
 kind:ImgM.In64 u.kind
 params:ImgM.In64 u.params
 locals:∀t∈u.locals,ImgM.In64 t
 result:ImgM.In64 u.result
 takes:ImgM.In64 u.takes
 code:∀i∈u.code,ImgM.In64 i.op∧ImgM.In64 i.a∧ImgM.In64 i.n
structure ML.Wf(m:ML):Prop where
 bx:∀b∈m.bx,ImgM.In64 b.1∧ImgM.In64 b.2
 us:∀x∈m.us,UWf x.u
theorem drop_cons{α:Type} [Inhabited α]{l:List α}{k:Nat}(h:k<l.length):l.drop k=l.getD k default::l.drop (k+1):=by
 rw[←List.getElem_cons_drop (h:=h)];simp[List.getD_eq_getElem?_getD,h]
theorem take_snoc{α:Type} [Inhabited α]{l:List α}{k:Nat}(h:k<l.length):l.take (k+1)=l.take k ++[l.getD k default]:=by
 rw[List.take_succ_eq_append_getElem h];simp[List.getD_eq_getElem?_getD,h]
theorem getD_mem{α:Type} [Inhabited α]{l:List α}{k:Nat}(h:k<l.length):l.getD k default∈l:=by
 rw[List.getD_eq_getElem?_getD,List.getElem?_eq_getElem h];exact List.getElem_mem h
section
variable{m:ML}{L L' F F' R:List Chunk}{w:World}
theorem Reads.md(t:Take (md m) F F')(h:Reads w R F):Reads w (Proofs.YtjehflelkpacfaaGreat.md m::R) F:= .cons t md_excl (fun h=>⟨h,fun _ hb=>hb⟩) h
theorem Rdb.md_boxes(t:Take (md m) L L'):Rdb L m.bo m.bx.length m.bc boxC m.bx:=fun w hm=>⟨(md_holds.1 (hm.has t)).boxes,rfl⟩
theorem Rdb.md_units(t:Take (md m) L L'):Rdb L m.uo m.us.length m.uc ucell m.us:=fun w hm=>⟨(md_holds.1 (hm.has t)).units,rfl⟩
theorem Rdb.md_locals{k:Nat}(t:Take (md m) L L')(hk:k<m.us.length):Rdb L (m.us.getD k default).lo (m.us.getD k default).u.locals.length (m.us.getD k default).lc i64c (m.us.getD k default).u.locals:=fun w hm=>⟨(md_holds.1 (hm.has t)).locals _ (ML.uat_mem hk),rfl⟩
theorem Rdb.md_code{k:Nat}(t:Take (md m) L L')(hk:k<m.us.length):Rdb L (m.us.getD k default).co (m.us.getD k default).u.code.length (m.us.getD k default).cc insC (m.us.getD k default).u.code:=fun w hm=>⟨(md_holds.1 (hm.has t)).code _ (ML.uat_mem hk),rfl⟩
theorem Rdb.place{α:Type}{iα:Inhabited α}{ao:Option Addr}{n cap:Nat}{f:α→List Value}{ef:Enc f}{l:List α}(h:Rdb L ao n cap f l)(hm:Mem w L){k:Nat}(hk:k<n)(off:Nat):(place (sz f) ao k off).isSome=true:=by
 obtain⟨b,o,rfl, -⟩:=h.cell hm hk;rw[place_some];rfl
theorem Reads.mdCode{k:Nat}(t:Take (Proofs.YtjehflelkpacfaaGreat.md m) F F')(hk:k<m.us.length)(h:Reads w R F):Reads w (Proofs.YtjehflelkpacfaaGreat.rd (m.us.getD k default).co (m.us.getD k default).u.code.length (m.us.getD k default).cc insC (m.us.getD k default).u.code::R) F:=
 .cons t rd_excl (fun h=>⟨rd_holds.2 ⟨(md_holds.1 h).code _ (ML.uat_mem hk),rfl⟩,fun b hb=>md_foot.2 (.inr (.inr ⟨_,ML.uat_mem hk, .inr (rd_foot.1 hb)⟩))⟩) h
theorem Reads.mdLocals{k:Nat}(t:Take (Proofs.YtjehflelkpacfaaGreat.md m) F F')(hk:k<m.us.length)(h:Reads w R F):Reads w (Proofs.YtjehflelkpacfaaGreat.rd (m.us.getD k default).lo (m.us.getD k default).u.locals.length (m.us.getD k default).lc i64c (m.us.getD k default).u.locals::R) F:=
 .cons t rd_excl (fun h=>⟨rd_holds.2 ⟨(md_holds.1 h).locals _ (ML.uat_mem hk),rfl⟩,fun b hb=>md_foot.2 (.inr (.inr ⟨_,ML.uat_mem hk, .inl (rd_foot.1 hb)⟩))⟩) h
end
section
variable{P:Program} [Tabbed P]{Q:Exit→Act→World→Prop}{N:Nat}{E:Env}{L L':List Chunk}
variable{dst:Option Tmp}{ty:TypeId}{pos:String}{aft:Array Edge}{g:Option (Nat×Bool)}
theorem OpT.cutMdL{m:ML}{k n cap:Nat}{ao:Option Addr}{t e:TypeId}{s' b' s2 b2 hi:Nat}{d2:TyD}{z' z2:List Value}{x:Operand}{oh:Option Operand}{C:Env→List Chunk→Prop}(hx:ev E x=some (.slice ao n cap))(ha:ao=(m.us.getD k default).lo)(hn:n=(m.us.getD k default).u.locals.length)(hc:cap=(m.us.getD k default).lc)
  (ht:tyOf P t=some ⟨.slice e,s',b',z'⟩) (he:tyOf P e=some ⟨d2,s2,b2,z2⟩)
  (hm:Take (md m) L L') (hk:k<m.us.length) (hs2:s2=sz i64c) (hb:Bnd E n none oh 0 hi) (h2:hi≤n) (hd:fitsB N dst=true)
  (kk:∀ao' cap',C (upd dst (.slice ao' hi cap') E) (rd ao' hi cap' i64c ((m.us.getD k default).u.locals.take hi)::L)):OpT P Q N ⟨dst, .slice t x none oh none,ty,pos,aft,g⟩ E L C:=fun K hK A w hS hM=>by
 subst ha hn hc;have hrow:=(md_holds.1 (hM.has hm)).locals _ (ML.uat_mem hk);have hcap:(m.us.getD k default).u.locals.length≤(m.us.getD k default).lc:=by
  obtain⟨-, -,ao',cap',g2,g3, -⟩:=hrow;simp only[Value.slice.injEq]at g2;obtain⟨-, -,rfl⟩:=g2;exact g3
 unfold Oper.wp;rw[run_cut hS hx ht he hb (Nat.zero_le _) (by omega) w];subst hs2;have hr:=Row.sub hrow rfl (Nat.zero_le hi) h2;have hkk:=kk (if(m.us.getD k default).lc=0 then(m.us.getD k default).lo else(m.us.getD k default).lo.map (·.add (0*sz i64c))) ((m.us.getD k default).lc-0);refine hK _ _ hkk _ _ ?_ (hM.dup hm rd_excl (rd_holds.2 ⟨by simpa using hr,List.length_take_of_le h2⟩) (fun c hc=>md_foot.2 (.inr (.inr ⟨_,ML.uat_mem hk, .inl ⟨own_cut (rd_foot.1 hc).1 _,by have:=(rd_foot.1 hc).2;omega⟩⟩))) md_excl);exact hS.put (.slice (if(m.us.getD k default).lc=0 then(m.us.getD k default).lo else(m.us.getD k default).lo.map (·.add (0*sz i64c))) hi ((m.us.getD k default).lc-0)) hd
end
end Go.Proofs.YtjehflelkpacfaaGreat
