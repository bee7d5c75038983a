/- More rules for walks: two operations of a region that may come in either order, closures, slices against nil. Of whatever program. -/
import Derived.Test.YtofckcabpchcmaaGreatDoorM04
import Derived.Lib.SliceRun
set_option linter.unusedVariables false
set_option linter.unusedSimpArgs false
set_option linter.unusedSectionVars false
set_option maxRecDepth 100000
namespace Go.Proofs.YtofckcabpchcmaaGreatDoor
section
open Go
@[irreducible] def fN (P : Program) (y : Code) (Q : Exit → Act → World → Prop) : Exit → Act → World → Prop := Exit.then (y.wp P Q) Q
section
variable{P:Program}{y x:Code}{Q:Exit→Act→World→Prop}{N:Nd}{id:Nat}{E:Env}{L:List Chunk}
theorem aG.kH(h:aG P (fN P y Q) N x E L):aG P Q N (.seq x y) E L:=fun a w hs hm=>wp_seq (by have:=h a w hs hm;unfold fN at this;exact this)
theorem End.kH(h:aG P Q N y E L):End (fN P y Q) N .normal E L:=fun a w hs hm=>by unfold fN;exact h a w hs hm
theorem End.L7(h:End Q N (.exit id) E L):End (fN P y Q) N (.exit id) E L:=fun a w hs hm=>by unfold fN;exact h a w hs hm
theorem End.L8(h:End Q N .ret E L):End (fN P y Q) N .ret E L:=fun a w hs hm=>by unfold fN;exact h a w hs hm
theorem aS.pT(h:aS Q):aS (fN P y Q):=by unfold fN;exact h
theorem EP{c:Code}{σ:Type}(ok:σ→Prop)(inv:σ→Env)(mem:σ→List Chunk)
  (h2:∀s,ok s→aG P Q N y (inv s) (mem s)) (h1:∀K':Act→World→Prop,(∀s,ok s→∀a w,Sat N a (inv s)→Mem w (mem s)→K' a w)→aG P (Exit.inBlock id (Exit.then K' Q)) N c E L):aG P (Exit.inBlock id (fN P y Q)) N c E L:=by
 unfold fN;exact h1 _ (fun s hs a w ha hm=>h2 s hs a w ha hm)
theorem CA{c:Code}{σ:Type}(ok:σ→Prop)(inv:σ→Env)(mem:σ→List Chunk)
  (h2:∀s,ok s→aG P Q N y (inv s) (mem s)) (h1:∀K':Act→World→Prop,(∀s,ok s→∀a w,Sat N a (inv s)→Mem w (mem s)→K' a w)→aG P (Exit.then K' Q) N c E L):aG P (fN P y Q) N c E L:=by
 unfold fN;exact h1 _ (fun s hs a w ha hm=>h2 s hs a w ha hm)
end
section
variable{P:Program}{ops:Array Oper}{Q:Exit→Act→World→Prop}{N:Nd}{e:Nat}{LT:List Chunk}{E:Env}{L F:List Chunk}{fuel:Nat}{listed:Array Bool}
theorem RunT.two(i j:Nat){o o':Oper}(hr:Region.ready .any ops listed=[i,j])(ho:ops[i]?=some o)(hg:o.guard=none)(ho':ops[j]?=some o')(hg':o'.guard=none)
  (h:aB P Q N o E L (fun E' L'=>Good e LT (listed.setIfInBounds i true) L'∧RunT P ops Q N e LT fuel (listed.setIfInBounds i true) E' L'))
  (h':aB P Q N o' E L (fun E' L'=>Good e LT (listed.setIfInBounds j true) L'∧RunT P ops Q N e LT fuel (listed.setIfInBounds j true) E' L')):RunT P ops Q N e LT (fuel+1) listed E L:=
 fun a w hs hM=>by
  refine⟨fun h0=>(by rw[h0]at hr;cases hr),fun k hk=>?_⟩;rw[hr]at hk;have hk':k=i∨k=j:=by simpa using hk
  rcases hk' with rfl|rfl
  ·exact wpOp_step ho fun K' hK'=>by
    rw[if_pos (by simp[Region.wanted,hg])];exact h K' (fun E' L' hc a w hs hm=>hK' a w ⟨hc.1.imp id fun⟨F,t⟩=>(hm.aP t).left,hc.2 a w hs hm⟩) a w hs hM
  ·exact wpOp_step ho' fun K' hK'=>by
    rw[if_pos (by simp[Region.wanted,hg'])];exact h' K' (fun E' L' hc a w hs hm=>hK' a w ⟨hc.1.imp id fun⟨F,t⟩=>(hm.aP t).left,hc.2 a w hs hm⟩) a w hs hM
end
def MV(o:Oper):Bool:=match o.op with
 | .move _| .assign _| .pick .. | .load .. | .nilCheck _| .binOp .. | .unOp .. | .convert .. | .fieldAddr .. | .field .. | .indexAddr .. | .index .. | .lookup .. | .extract .. | .build .. | .makeFunc .. | .makeInterface .. =>true
 | .call ⟨.builtin .len,_,_⟩=>true
 |_=>false
def oD:List Oper→List Oper×List Oper
 |[]=>([],[])
 |o::r=>if MV o then(o::(oD r).1,(oD r).2)else([],o::r)
theorem ND:∀l:List Oper,(oD l).1=l.take (oD l).1.length∧(oD l).2=l.drop (oD l).1.length
 |[]=>⟨rfl,rfl⟩
 |o::r=>by
  unfold oD
  split
  ·obtain⟨h1,h2⟩:=ND r;exact⟨by simp only[List.length_cons,List.take_succ_cons];rw[←h1],by simp only[List.length_cons,List.drop_succ_cons];exact h2⟩
  ·exact⟨rfl,rfl⟩
theorem aG.aEr{P:Program}{Q:Exit→Act→World→Prop}{N:Nd}{id:Nat}{E:Env}{L:List Chunk}{l:List Oper}(hq:l.all MV=true)(hm:P.follows .mixedOrders=true)(hB:Region.lexB .any l.toArray=true)(h:aN P l.toArray Q N l E L):aG P Q N (.region id l.toArray true) E L:=aG.quiet hm hB h
def aU(P:Program)(ops:Array Oper)(rest:List Oper)(Q:Exit→Act→World→Prop)(N:Nd)(l:List Oper)(E:Env)(L:List Chunk):Prop:=
 ∀a w,Sat N a E→Mem w L→wpStill P ops w (fun a'=>wpList P ops Q rest a' w) l a
section
variable{P:Program}{ops:Array Oper}{rest:List Oper}{Q:Exit→Act→World→Prop}{N:Nd}{E:Env}{L:List Chunk}
theorem aG.tail{id:Nat}{l:List Oper}(hne:(oD l).2.isEmpty=false)(hm:P.follows .mixedOrders=true)(hB:Region.lexTailB .any l.toArray (oD l).1.length=true)(h:aU P l.toArray (oD l).2 Q N (oD l).1 E L):aG P Q N (.region id l.toArray true) E L:=fun a w hs hM=>by
 refine wp_region_still_tail _ hm hB ?_;have:=h a w.drew hs hM.drew;rw[(ND l).1,(ND l).2]at this;exact this
theorem aU.nil(h:aE P ops Q N rest E L):aU P ops rest Q N [] E L:=fun a w hs hM=>wpStill_nil (h a w hs hM)
theorem XL{o:Oper}{a:Act}{w:World}{v:Value}{K:Act→Prop}(h:(execOp a.eval o).run P w= .ok (.value v) w)(hn:K (a.put o.dst v)):o.still P a w K:=by
 unfold Oper.still;rw[h,Oper.stillUpon_value];exact hn
theorem aU.val{d:Tmp}{op:Op}{ty:TypeId}{pos:String}{aft:Array Edge}{l:List Oper}{v:Value}(h:Still P N ⟨some d,op,ty,pos,aft,none⟩ E L v)(hd:Nat.blt d N.n=true)(k:aU P ops rest Q N l ((d,v)::E) L):aU P ops rest Q N (⟨some d,op,ty,pos,aft,none⟩::l) E L:=by
 intro a w hs hM;refine wpStill_step fun K hK=>?_
 rw[if_pos (by simp[Region.wanted])];exact XL (h a w hs hM) (hK _ (k _ w (hs.put (dst:=some d) v hd) hM))
theorem aU.yes{d:Tmp}{op:Op}{ty:TypeId}{pos:String}{aft:Array Edge}{l:List Oper}{v:Value}{j:Nat}{want:Bool}(hgd:gd ops E j=some (.bool want))(h:Still P N ⟨some d,op,ty,pos,aft,some (j,want)⟩ E L v)(hd:Nat.blt d N.n=true)(k:aU P ops rest Q N l ((d,v)::E) L):aU P ops rest Q N (⟨some d,op,ty,pos,aft,some (j,want)⟩::l) E L:=by
 intro a w hs hM;refine wpStill_step fun K hK=>?_
 rw[uT hs rfl hgd,if_pos (by simp)];exact XL (h a w hs hM) (hK _ (k _ w (hs.put (dst:=some d) v hd) hM))
theorem aU.no{d:Tmp}{op:Op}{ty:TypeId}{pos:String}{aft:Array Edge}{l:List Oper}{j:Nat}{want t:Bool}(hgd:gd ops E j=some (.bool t))(hne:(t==want)=false)(hd:Nat.blt d N.n=true)(k:aU P ops rest Q N l ((d,Go.undef)::E) L):aU P ops rest Q N (⟨some d,op,ty,pos,aft,some (j,want)⟩::l) E L:=by
 intro a w hs hM;refine wpStill_step fun K hK=>?_
 rw[uT hs rfl hgd,hne];exact hK _ (k _ w (hs.put (dst:=some d) Go.undef hd) hM)
variable{d0 d:Tmp}{op:Op}{ty:TypeId}{pos:String}{aft:Array Edge}{l:List Oper}{j:Nat}{want t:Bool}
theorem aU.CM(hj:slot ops j=some d)(hl:look E d=some (.bool t))(ht:t=true)(k:aU P ops rest Q N (⟨some d0,op,ty,pos,aft,some (j,want)⟩::l) ((d, .bool true)::E) L):aU P ops rest Q N (⟨some d0,op,ty,pos,aft,some (j,want)⟩::l) E L:=
 fun a w hs hM=>k a w (hs.pZ (ht▸hl)) hM
theorem aU.CL(hj:slot ops j=some d)(hl:look E d=some (.bool t))(ht:t=false)(k:aU P ops rest Q N (⟨some d0,op,ty,pos,aft,some (j,want)⟩::l) ((d, .bool false)::E) L):aU P ops rest Q N (⟨some d0,op,ty,pos,aft,some (j,want)⟩::l) E L:=
 fun a w hs hM=>k a w (hs.pZ (ht▸hl)) hM
end
section
variable{P:Program} [eT P]{Q:Exit→Act→World→Prop}{N:Nd}{E:Env}{L L':List Chunk}
variable{dst:Option Tmp}{ty:TypeId}{pos:String}{aft:Array Edge}{g:Option (Nat×Bool)}
theorem Still.aBZ{xT yT e:TypeId}{x y:Operand}{ao:Option Addr}{n c n' c' s' b':Nat}{z':List Value}(hx:ev E x=some (.slice ao n c))(hy:ev E y=some (.slice none n' c'))(ht:bB P xT=some ⟨.slice e,s',b',z'⟩):
  Still P N ⟨dst, .binOp .eql xT x y yT,ty,pos,aft,g⟩ E L (.bool ao.isNone):=fun A w hs _=>by
 have:=Lib.run_eql_slice_nil (P:=P) w xT e ao n c n' c' (cI ht).slice;simp[execOp,hs.ev hx,hs.ev hy,eqGuard,this]
theorem WE{P:Program}{t e:TypeId}(h:P.underlying t=some (.pointer e))(d:Nat)(a:Option Addr)(w:World):(Op.equalIn (d+1) t (.pointer a) (.pointer none)).run P w= .ok a.isNone w:=by
 cases a<;>simp[Op.equalIn,run_underlying h]
theorem aF1{P:Program}{t e:TypeId}(h:P.underlying t=some (.pointer e))(a:Option Addr)(w:World):(binOp .neq t (.pointer a) (.pointer none)).run P w= .ok (.bool a.isSome) w:=by
 simp only[binOp]
 cases a<;>simp[Op.equal,Op.maxDepth,WE h 9999]
theorem aFZ{P:Program}{t e:TypeId}(h:P.underlying t=some (.pointer e))(a:Option Addr)(w:World):(binOp .eql t (.pointer a) (.pointer none)).run P w= .ok (.bool a.isNone) w:=by
 simp only[binOp];simp[Op.equal,Op.maxDepth,WE h 9999]
theorem Still.aDf{xT yT e:TypeId}{x y:Operand}{a:Option Addr}{s' b':Nat}{z':List Value}(hx:ev E x=some (.pointer a))(hy:ev E y=some (.pointer none))(ht:bB P xT=some ⟨.pointer e,s',b',z'⟩):
  Still P N ⟨dst, .binOp .neq xT x y yT,ty,pos,aft,g⟩ E L (.bool a.isSome):=fun A w hs _=>by
 simp[execOp,hs.ev hx,hs.ev hy,eqGuard,aF1 (cI ht).pointer]
theorem Still.aB2{xT yT e:TypeId}{x y:Operand}{a:Option Addr}{s' b':Nat}{z':List Value}(hx:ev E x=some (.pointer a))(hy:ev E y=some (.pointer none))(ht:bB P xT=some ⟨.pointer e,s',b',z'⟩):
  Still P N ⟨dst, .binOp .eql xT x y yT,ty,pos,aft,g⟩ E L (.bool a.isNone):=fun A w hs _=>by
 simp[execOp,hs.ev hx,hs.ev hy,eqGuard,aFZ (cI ht).pointer]
def E7(P:Program)(t:TypeId):Bool:=match P.underlying t with
 |some (.func ..)=>true
 |_=>false
theorem WD{t:TypeId}(h:E7 P t=true)(d:Nat)(v:Value)(hv:v= .nilFunc∨∃fn a b,v= .func fn a b)(w:World):(Op.equalIn (d+1) t v .nilFunc).run P w= .ok (v matches .nilFunc) w:=by
 unfold E7 at h
 cases hu:P.underlying t with
 |none=>rw[hu]at h;cases h
 |some u=>
  rw[hu]at h
  cases u<;>simp at h
  rcases hv with rfl|⟨fn,a,b,rfl⟩<;>simp[Op.equalIn,run_underlying hu]
theorem Still.aDa{xT yT:TypeId}{x y:Operand}{fn:Go.Fn}{a b:Array Value}(hx:ev E x=some (.func fn a b))(hy:ev E y=some .nilFunc)(ht:E7 P xT=true):
  Still P N ⟨dst, .binOp .neq xT x y yT,ty,pos,aft,g⟩ E L (.bool true):=fun A w hs _=>by
 have:=WD ht 9999 (.func fn a b) (.inr ⟨_,_,_,rfl⟩) w;simp only[execOp,hs.ev hx,hs.ev hy,eqGuard,binOp,Op.equal,Op.maxDepth];simp[this]
theorem Still.aDb{xT yT:TypeId}{x y:Operand}(hx:ev E x=some .nilFunc)(hy:ev E y=some .nilFunc)(ht:E7 P xT=true):
  Still P N ⟨dst, .binOp .neq xT x y yT,ty,pos,aft,g⟩ E L (.bool false):=fun A w hs _=>by
 have:=WD ht 9999 .nilFunc (.inl rfl) w;simp only[execOp,hs.ev hx,hs.ev hy,eqGuard,binOp,Op.equal,Op.maxDepth];simp[this]
def I8(P:Program)(t:TypeId):Bool:=match P.underlying t with
 |some (.func ..)=>true
 |some (.interface _)=>true
 |_=>false
theorem aC4{t:TypeId}(h:I8 P t=true)(w:World):(Go.isAgg t).run P w= .ok false w:=by
 unfold I8 at h
 cases hu:P.underlying t with
 |none=>rw[hu]at h;cases h
 |some u=>
  rw[hu]at h;unfold Go.isAgg;rw[Sem.run_bind,run_underlying hu w]
  cases u<;>simp at h<;>simp
theorem Still.LC{x:Operand}{t bt:TypeId}{b i:Nat}{cs:List Value}{v:Value}{L':List Chunk}(hx:ev E x=some (.pointer (some ⟨b,i,none⟩)))(ht:I8 P t=true)
  (hm:Take (aF b cs bt) L L') (hv:cs[i]?=some v):Still P N ⟨dst, .load t x,ty,pos,aft,g⟩ E L v:=fun A w hs hM=>by
 have hb:=jO.1 (hM.has hm);have hc:w.cell? ⟨b,i,none⟩=some v:=by rw[hb.cell];simpa using hv
 simp[execOp,hs.ev hx,Instr.loadAt,Instr.sureAddr,loadVar,aC4 ht,load,hc]
theorem Still.makeFunc{fn:Go.Fn}{first captured:List Operand}{vs us:List Value}(h1:gD E first vs)(h2:gD E captured us):
  Still P N ⟨dst, .makeFunc fn first.toArray captured.toArray,ty,pos,aft,g⟩ E L (.func fn vs.toArray us.toArray):=fun A w hs _=>by
 have e1:first.toArray.map A.eval=vs.toArray:=by rw[←hs.nZ h1];simp
 have e2:captured.toArray.map A.eval=us.toArray:=by rw[←hs.nZ h2];simp
 simp only[execOp,Instr.makeFunc,e1,e2,Sem.run_bind,Sem.run_pure,Result.andThen_ok]
end
theorem aR.all(L:List Chunk):aR L L []:=by
 induction L with
 |nil=>exact .nil
 |cons c r ih=>exact .cons .head ih
theorem aR.skip{c:Chunk}{cs L F:List Chunk}(h:aR cs L F):aR cs (c::L) (c::F):=by
 induction h generalizing c with
 |nil=>exact .nil
 |cons h1 _ ih=>exact .cons (.tail h1) ih
theorem Take.L9{c:Chunk}:∀{L:List Chunk},c∈L→∃L',Take c L L'
 |d::L,h=>by
  rcases List.mem_cons.1 h with rfl|h
  ·exact⟨L, .head⟩
  ·obtain⟨L',t⟩:=Take.L9 h;exact⟨d::L', .tail t⟩
theorem aR.UJ:∀{cs L F:List Chunk},L.Perm (cs ++F)→∃F',aR cs L F'∧F'.Perm F
 |[],L,F,p=>⟨L, .nil,p⟩
 |c::cs,L,F,p=>by
  obtain⟨L',t⟩:=Take.L9 (p.mem_iff.2 (by simp:c∈c::cs ++F));have p2:L'.Perm (cs ++F):=List.Perm.cons_inv (t.perm.symm.trans p);obtain⟨F',t2,p3⟩:=aR.UJ p2;exact⟨F', .cons t t2,p3⟩
theorem aR.back{a b c:Chunk}{pre:List Chunk}:aR (a::b::c::pre) (pre ++[a,b,c]) []:=by
 obtain⟨F',t,p⟩:=aR.UJ (cs:=a::b::c::pre) (L:=pre ++[a,b,c]) (F:=[]) (by simpa using List.perm_append_comm (l₁:=pre) (l₂:=[a,b,c]));rwa [List.Perm.eq_nil p]at t
theorem aR.zI{a b c:Chunk}{pre:List Chunk}:aR (a::pre) (pre ++[a,b,c]) [b,c]:=by
 have h:∀pre:List Chunk,aR pre (pre ++[b,c]) [b,c]:=by
  intro pre
  induction pre with
  |nil=>exact .nil
  |cons d r ih=>exact .cons .head ih
 have t:Take a (pre ++[a,b,c]) (pre ++[b,c]):=by
  induction pre with
  |nil=>exact .head
  |cons d r ih=>exact .tail ih
 exact .cons t (h pre)
theorem Reads.any{w:World}{r:Chunk}{R F F':List Chunk}(t:Take r F F')(hx:r.bE=false)(h:Reads w R F):Reads w (r::R) F:= .cons t hx (fun h=>⟨h,fun _ hb=>hb⟩) h
theorem Reads.aF{w:World}{α:Type}{iα:Inhabited α}{f:α→List Value}{ef:bH f}{b n:Nat}{cs:List Value}{e:TypeId}{l:List α}{R F F':List Chunk}(t:Take (Proofs.YtofckcabpchcmaaGreatDoor.aF b cs e) F F')(hc:cs=l.flatMap f)(hn:l.length=n)(hm:n≤9223372036854775807)(h:Reads w R F):
  Reads w (Proofs.YtofckcabpchcmaaGreatDoor.rd (some ⟨b,0,none⟩) n n f l::R) F:= .cons t eO (fun h=>⟨jJ.2 ⟨by
   have:=Row.aDv (size:=sz f) (n:=n) (jO.1 h) (by rw[hc,List.size_toArray,tS,hn]) hm;rwa [←hc],hn⟩,fun b' hb=>sJ.2 (by have:=(iZ.1 hb).1;simp[Value.ownBlock]at this;exact this.symm)⟩) h
theorem Take.aAF{b:Nat}{cs cs':List Value}{t:TypeId}{L:List Chunk}(h:cs=cs'):Take (aF b cs t) (aF b cs' t::L) L:=h▸ .head
theorem Take.Z9{α:Type}{iα:Inhabited α}{ao:Option Addr}{n n' cap:Nat}{e:TypeId}{f:α→List Value}{ef:bH f}{l l':List α}{L:List Chunk}(h:n=n')(h2:l=l'):Take (arr ao n cap e f l) (arr ao n' cap e f l'::L) L:=by subst h h2;exact .head
section
variable{σ:Type}
theorem Mem.pH{w:World}{cs ds es L L':List Chunk}(h:Mem w L)(t:Take (bC cs) L L')(p:cs.Perm (ds ++es)):Mem w (ds ++(bC es::L')):=by
 have hb:=qJ.1 (h.has t);have h1:Mem w (cs ++L'):=(h.take t).unpack;have h2:Mem w (es ++(ds ++L')):=h1.perm ((List.Perm.append_right _ (p.trans List.perm_append_comm)).trans (by rw[List.append_assoc]));have h3:=h2.pack (fun c hc=>hb.2 c (p.mem_iff.2 (by simp[hc])));exact h3.perm (List.perm_middle.symm)
theorem Mem.nC{w:World}{cs ds es L L' F:List Chunk}(h:Mem w L)(t:Take (bC es) L L')(t2:aR ds L' F)(p:cs.Perm (ds ++es))(hx:∀c∈ds,c.bE=true):Mem w (bC cs::F):=by
 have hb:=qJ.1 (h.has t);have h1:Mem w (es ++L'):=(h.take t).unpack;have h2:Mem w (es ++(ds ++F)):=h1.perm (List.Perm.append_left _ t2.perm);have h3:Mem w (cs ++F):=by
  refine h2.perm ?_;rw[←List.append_assoc];exact List.Perm.append_right _ (List.perm_append_comm.trans p.symm)
 exact h3.pack (fun c hc=>by
  rcases List.mem_append.1 (p.mem_iff.1 hc)with h|h
  ·exact hx c h
  ·exact hb.2 c h)
theorem Reads.bC{w:World}{α:Type}{iα:Inhabited α}{ao:Option Addr}{n cap:Nat}{e:TypeId}{f:α→List Value}{ef:bH f}{l:List α}{cs R F F':List Chunk}(t:Take (Proofs.YtofckcabpchcmaaGreatDoor.bC cs) F F')(hm:Proofs.YtofckcabpchcmaaGreatDoor.arr ao n cap e f l∈cs)(h:Reads w R F):
  Reads w (Proofs.YtofckcabpchcmaaGreatDoor.rd ao n cap f l::R) F:= .cons t eO (fun hb=>by
   have ha:=fV.1 ((qJ.1 hb).1.all _ hm);exact⟨jJ.2 ⟨ha.1.row bH.pos,ha.2⟩,fun b hb=>xK.2 ⟨_,hm,gG.2 ⟨(iZ.1 hb).1,Nat.lt_of_lt_of_le (iZ.1 hb).2 ha.1.le⟩⟩⟩) h
theorem aDZ{α:Type}{b:Nat}{g:α→Value}{l l':List (Int×α)}{w:World}{L L':List Chunk}(h:Mem w L)(t:Take (mp b g l) L L')(e:l.map (fun p=>(Value.int .i64 p.1,g p.2))=l'.map (fun p=>(Value.int .i64 p.1,g p.2))):Mem w (mp b g l'::L'):=by
 obtain⟨es,clock,h1,h2,h3⟩:=uB.1 (h.has t);exact(h.take t).s6 (S:=Nil) (cB.refl _ _) gU (fun _ h _=>h.elim) (uB.2 ⟨es,clock,h1,h2.trans e,h3⟩) (fun c hc=> .inl (x8.2 (x8.1 hc)))
end
end
namespace ImgM
structure aT where
 op:Int
 a:Int
 n:Int
structure bM where
 kind:Int
 params:Int
 locals:List Int
 result:Int
 aP:Int
 code:List aT
structure aL where
 boxes:List (Int×Int)
 aJ:List bM
def o7(n:Int):Nat:=if n<0 then(-2*n-1).toNat else(2*n).toNat
def D2(x:Nat):Int:=if x % 2=0 then((x/2:Nat):Int)else -((x/2:Nat):Int)-1
theorem aI1(n:Int):D2 (o7 n)=n:=by
 unfold D2 o7
 split<;>split<;>omega
def In64(n:Int):Prop:= -9223372036854775808≤n∧n≤9223372036854775807
theorem OR{n:Int}(h:In64 n):o7 n<18446744073709551616:=by
 unfold o7;have:=h.1;have:=h.2
 split<;>omega
def nG(x:Nat):List Nat:=if x<128 then [x]else(x % 128+128)::nG (x/128)
termination_by x
decreasing_by omega
theorem CO{x:Nat}(h:x<128):nG x=[x]:=by rw[nG,if_pos h]
theorem FV{x:Nat}(h:¬x<128):nG x=(x % 128+128)::nG (x/128):=by rw[nG,if_neg h]
theorem S9(m:Nat):∀x:Nat,x<128^(m+1)→(nG x).length≤m+1:=by
 induction m with
 |zero=>intro x h;rw[CO (by simpa using h)];simp
 |succ m ih=>
  intro x h
  by_cases hx:x<128
  ·rw[CO hx];simp
  ·rw[FV hx];have:=ih (x/128) (by rw[Nat.div_lt_iff_lt_mul (by decide)];rw[Nat.pow_succ]at h;exact h);simp;omega
theorem aCi(x:Nat):1≤(nG x).length:=by
 by_cases hx:x<128
 ·rw[CO hx];simp
 ·rw[FV hx];simp
def num(n:Int):List Nat:=nG (o7 n)
theorem UE{n:Int}(h:In64 n):(num n).length≤10:=S9 9 _ (Nat.lt_trans (OR h) (by decide))
theorem aDt(n:Int):1≤(num n).length:=aCi _
def bI(l:List Int):List Nat:=l.flatMap num
theorem C4{l:List Int}(h:∀n∈l,In64 n):(bI l).length≤10*l.length:=by
 induction l with
 |nil=>simp[bI]
 |cons a r ih=>
  have h1:=UE (h a (by simp));have h2:=ih (fun n hn=>h n (by simp[hn]));simp only[bI,List.flatMap_cons,List.length_append,List.length_cons]at *;omega
theorem mX(a b:List Int):bI (a ++b)=bI a ++bI b:=by simp[bI]
theorem UG(a:Int)(b:List Int):bI (a::b)=num a ++bI b:=by simp[bI]
theorem UH(l:List Int)(k:Nat)(hk:k<l.length):bI (l.take (k+1))=bI (l.take k) ++num (l.getD k 0):=by
 rw[List.take_succ_eq_append_getElem hk,mX];simp[bI,List.getD_eq_getElem?_getD,hk]
def tV(i:aT):List Int:=[i.op,i.a,i.n]
def eG(l:List aT):List Int:=l.flatMap tV
def dI(u:bM):List Int:=[u.kind,u.params] ++((u.locals.length:Int)::u.locals) ++[u.result,u.aP,(u.code.length:Int)] ++eG u.code
def eU(b:Int×Int):List Int:=[b.1,b.2]
def iO(m:aL):List Int:=(m.boxes.length:Int)::m.boxes.flatMap eU ++(m.aJ.length:Int)::m.aJ.flatMap dI
def body(m:aL):List Nat:=bI (iO m)
theorem KE{α β:Type}(f:α→List β)(l:List α)(k:Nat):(l.take k).flatMap f ++(l.drop k).flatMap f=l.flatMap f:=by
 rw[←List.flatMap_append,List.take_append_drop]
theorem KD{α β:Type} [Inhabited α](f:α→List β)(l:List α)(k:Nat)(hk:k<l.length):(l.take (k+1)).flatMap f=(l.take k).flatMap f ++f (l.getD k default):=by
 rw[List.take_succ_eq_append_getElem hk,List.flatMap_append];simp[List.getD_eq_getElem?_getD,hk]
def qU(m:aL)(k:Nat):List Int:=(m.boxes.length:Int)::(m.boxes.take k).flatMap eU
def mI(m:aL)(k:Nat):List Int:=(m.boxes.length:Int)::m.boxes.flatMap eU ++(m.aJ.length:Int)::(m.aJ.take k).flatMap dI
def yR(u:bM):List Int:=[u.kind,u.params] ++((u.locals.length:Int)::u.locals) ++[u.result,u.aP,(u.code.length:Int)]
instance:Inhabited aT:=⟨⟨0,0,0⟩⟩
instance:Inhabited bM:=⟨⟨0,0,[],0,0,[]⟩⟩
theorem aEg(m:aL)(k:Nat):qU m k ++((m.boxes.drop k).flatMap eU ++(m.aJ.length:Int)::m.aJ.flatMap dI)=iO m:=by
 have:=KE eU m.boxes k;simp only[qU,iO,List.cons_append,←List.append_assoc,this]
theorem VF(m:aL)(k:Nat)(hk:k<m.boxes.length):qU m (k+1)=qU m k ++eU (m.boxes.getD k (0,0)):=by
 simp only[qU,List.cons_append];rw[KD eU m.boxes k hk];rfl
theorem VE(m:aL):qU m m.boxes.length ++[(m.aJ.length:Int)]=mI m 0:=by
 simp[qU,mI]
theorem VG(m:aL)(k:Nat):mI m k ++(m.aJ.drop k).flatMap dI=iO m:=by
 have:=KE dI m.aJ k;simp only[mI,iO,List.cons_append,List.append_assoc,this]
theorem VH(m:aL)(k:Nat)(hk:k<m.aJ.length):mI m (k+1)=mI m k ++dI (m.aJ.getD k default):=by
 simp only[mI,List.cons_append,List.append_assoc];rw[KD dI m.aJ k hk]
theorem aEh(m:aL):mI m m.aJ.length=iO m:=by simp[mI,iO]
theorem QZ(u:bM)(k:Nat)(hk:k<u.code.length):eG (u.code.take (k+1))=eG (u.code.take k) ++tV (u.code.getD k default):=KD tV u.code k hk
theorem aE0{m:aL}(hw:∀n∈iO m,In64 n){a b c:List Int}(h:a ++b ++c=iO m):(∀n∈b,In64 n)∧(bI a).length≤10*(iO m).length∧(bI (a ++b)).length≤(bI (iO m)).length:=by
 rw[←h]at hw⊢;refine⟨fun n hn=>hw n (by simp[hn]),?_,?_⟩
 ·have:=C4 (l:=a) (fun n hn=>hw n (by simp[hn]));simp only[List.length_append];omega
 ·rw[mX (a ++b),List.length_append];omega
def aAD(y:BitVec 16):BitVec 16:=if y.toNat/32768=1 then(y<<<1)^^^4129#16 else y<<<1
def P8:Nat→BitVec 16→BitVec 16
 |0,x=>x
 |n+1,x=>aAD (P8 n x)
def aAW(x:BitVec 16)(c:Nat):BitVec 16:=P8 8 (x^^^BitVec.ofNat 16 (c*256))
def aAt(x:BitVec 16)(l:List Nat):BitVec 16:=l.foldl aAW x
def Q5(l:List Nat):Nat:=(aAt 65535#16 l).toNat
def bytes(m:aL):List Nat:=body m ++[Q5 (body m)/256,Q5 (body m) % 256]
end ImgM
namespace Img
open Go.RowKit
def dB(i:ImgM.aT):List Value:=[.int .i64 i.op, .int .i64 i.a, .int .i64 i.n]
def jE(b:Int×Int):List Value:=[.int .i64 b.1, .int .i64 b.2]
structure Wf(M:ImgM.aL):Prop where
 bI:∀n∈ImgM.iO M,ImgM.In64 n
end Img
section
open Go.RowKit Img
instance:bH jE:=⟨fun _=>rfl,by decide,fun a u hu=>by simp[jE]at hu;rcases hu with rfl|rfl<;>rfl⟩
instance:bH dB:=⟨fun _=>rfl,by decide,fun a u hu=>by simp[dB]at hu;rcases hu with rfl|rfl|rfl<;>rfl⟩
structure UC where
 u:ImgM.bM
 lo:Option Addr
 lc:Nat
 co:Option Addr
 cc:Nat
instance:Inhabited UC:=⟨⟨default,none,0,none,0⟩⟩
def m6(x:UC):List Value:=[.int .i64 x.u.kind, .int .i64 x.u.params, .slice x.lo x.u.locals.length x.lc, .int .i64 x.u.result, .int .i64 x.u.aP, .slice x.co x.u.code.length x.cc]
instance:bH m6:=⟨fun _=>rfl,by decide,fun a u hu=>by simp[m6]at hu;rcases hu with rfl|rfl|rfl|rfl|rfl|rfl<;>rfl⟩
structure ML where
 bx:List (Int×Int)
 bo:Option Addr
 bc:Nat
 us:List UC
 uo:Option Addr
 uc:Nat
instance:Inhabited ML:=⟨⟨[],none,0,[],none,0⟩⟩
abbrev ML.aC(m:ML):ImgM.aL:=⟨m.bx,m.us.map (·.u)⟩
abbrev ML.val(m:ML):Value:= .agg #[.slice m.bo m.bx.length m.bc, .slice m.uo m.us.length m.uc]
abbrev ML.X9(m:ML)(k:Nat):UC:=m.us.getD k default
theorem sO(l:List UC)(k:Nat):(l.map (·.u)).getD k default=(l.getD k default).u:=by
 simp only[List.getD_eq_getElem?_getD,List.getElem?_map]
 cases l[k]?<;>rfl
theorem ML.jK(m:ML)(k:Nat):m.aC.aJ.getD k default=(m.us.getD k default).u:=sO m.us k
structure tG(w:World)(m:ML):Prop where
 boxes:Row w (.slice m.bo m.bx.length m.bc) (sz jE) m.bx.length (m.bx.flatMap jE)
 aJ:Row w (.slice m.uo m.us.length m.uc) (sz m6) m.us.length (m.us.flatMap m6)
 locals:∀x∈m.us,Row w (.slice x.lo x.u.locals.length x.lc) (sz aY) x.u.locals.length (x.u.locals.flatMap aY)
 code:∀x∈m.us,Row w (.slice x.co x.u.code.length x.cc) (sz dB) x.u.code.length (x.u.code.flatMap dB)
def EB(m:ML)(k:Nat):Prop:=
 ((Value.slice m.bo m.bx.length m.bc).ownBlock=some k∧0<m.bx.length)∨((Value.slice m.uo m.us.length m.uc).ownBlock=some k∧0<m.us.length)∨
 ∃x∈m.us,((Value.slice x.lo x.u.locals.length x.lc).ownBlock=some k∧0<x.u.locals.length)∨((Value.slice x.co x.u.code.length x.cc).ownBlock=some k∧0<x.u.code.length)
theorem tG.pN{w w':World}{m:ML}(h:tG w m){S:Nat→Prop}(k:cB S w w')(hs:∀b,EB m b→¬S b):tG w' m:=
 ⟨h.boxes.tW bH.pos k (fun b h1 h2=>hs b (.inl ⟨h1,h2⟩)),h.aJ.tW bH.pos k (fun b h1 h2=>hs b (.inr (.inl ⟨h1,h2⟩))),
  fun x hx=>(h.locals x hx).tW bH.pos k (fun b h1 h2=>hs b (.inr (.inr ⟨x,hx, .inl ⟨h1,h2⟩⟩))),fun x hx=>(h.code x hx).tW bH.pos k (fun b h1 h2=>hs b (.inr (.inr ⟨x,hx, .inr ⟨h1,h2⟩⟩)))⟩
theorem tG.lt{w:World}{m:ML}(h:tG w m):∀b,EB m b→b<w.heap.size:=by
 rintro b (⟨h1,h2⟩|⟨h1,h2⟩|⟨x,hx,⟨h1,h2⟩|⟨h1,h2⟩⟩)
 ·exact h.boxes.tZ bH.pos h2 b h1
 ·exact h.aJ.tZ bH.pos h2 b h1
 ·exact(h.locals x hx).tZ bH.pos h2 b h1
 ·exact(h.code x hx).tZ bH.pos h2 b h1
@[irreducible] def md (m : ML) : Chunk where
 holds w:=tG w m
 dA:=EB m
 bE:=false
 lT k hs h:=h.pN k hs
 lt h:=h.lt
theorem nI{w:World}{m:ML}:(md m).holds w↔tG w m:=by unfold md;exact Iff.rfl
theorem x5{m:ML}{k:Nat}:(md m).dA k↔EB m k:=by unfold md;exact Iff.rfl
theorem mH{m:ML}:(md m).bE=false:=by unfold md;rfl
structure ML.Small(m:ML):Prop where
 bx:m.bx.length≤9223372036854775807
 us:m.us.length≤9223372036854775807
 lo:∀k,k<m.us.length→(m.us.getD k default).u.locals.length≤9223372036854775807
 co:∀k,k<m.us.length→(m.us.getD k default).u.code.length≤9223372036854775807
theorem ML.lW{m:ML}{k:Nat}(hk:k<m.us.length):m.us.getD k default∈m.us:=by
 simp only[ML.X9,List.getD_eq_getElem?_getD,List.getElem?_eq_getElem hk,Option.getD_some];exact List.getElem_mem hk
theorem tG.small{w:World}{m:ML}(h:tG w m):m.Small:=
 ⟨h.boxes.2.1,h.aJ.2.1,fun k hk=>(h.locals _ (ML.lW hk)).2.1,fun k hk=>(h.code _ (ML.lW hk)).2.1⟩
structure UWf(u:ImgM.bM):Prop where
 kind:ImgM.In64 u.kind
 params:ImgM.In64 u.params
 locals:∀t∈u.locals,ImgM.In64 t
 result:ImgM.In64 u.result
 aP:ImgM.In64 u.aP
 code:∀i∈u.code,ImgM.In64 i.op∧ImgM.In64 i.a∧ImgM.In64 i.n
structure ML.Wf(m:ML):Prop where
 bx:∀b∈m.bx,ImgM.In64 b.1∧ImgM.In64 b.2
 us:∀x∈m.us,UWf x.u
theorem drop_cons{α:Type} [Inhabited α]{l:List α}{k:Nat}(h:k<l.length):l.drop k=l.getD k default::l.drop (k+1):=by
 rw[←List.getElem_cons_drop (h:=h)];simp[List.getD_eq_getElem?_getD,h]
theorem mM{α:Type} [Inhabited α]{l:List α}{k:Nat}(h:k<l.length):l.take (k+1)=l.take k ++[l.getD k default]:=by
 rw[List.take_succ_eq_append_getElem h];simp[List.getD_eq_getElem?_getD,h]
theorem dW{α:Type} [Inhabited α]{l:List α}{k:Nat}(h:k<l.length):l.getD k default∈l:=by
 rw[List.getD_eq_getElem?_getD,List.getElem?_eq_getElem h];exact List.getElem_mem h
section
variable{m:ML}{L L' F F' R:List Chunk}{w:World}
theorem Reads.md(t:Take (md m) F F')(h:Reads w R F):Reads w (Proofs.YtofckcabpchcmaaGreatDoor.md m::R) F:= .cons t mH (fun h=>⟨h,fun _ hb=>hb⟩) h
theorem bY.x3(t:Take (md m) L L'):bY L m.bo m.bx.length m.bc jE m.bx:=fun w hm=>⟨(nI.1 (hm.has t)).boxes,rfl⟩
theorem bY.vL(t:Take (md m) L L'):bY L m.uo m.us.length m.uc m6 m.us:=fun w hm=>⟨(nI.1 (hm.has t)).aJ,rfl⟩
theorem bY.x6{k:Nat}(t:Take (md m) L L')(hk:k<m.us.length):bY L (m.us.getD k default).lo (m.us.getD k default).u.locals.length (m.us.getD k default).lc aY (m.us.getD k default).u.locals:=fun w hm=>⟨(nI.1 (hm.has t)).locals _ (ML.lW hk),rfl⟩
theorem bY.x4{k:Nat}(t:Take (md m) L L')(hk:k<m.us.length):bY L (m.us.getD k default).co (m.us.getD k default).u.code.length (m.us.getD k default).cc dB (m.us.getD k default).u.code:=fun w hm=>⟨(nI.1 (hm.has t)).code _ (ML.lW hk),rfl⟩
theorem bY.place{α:Type}{iα:Inhabited α}{ao:Option Addr}{n cap:Nat}{f:α→List Value}{ef:bH f}{l:List α}(h:bY L ao n cap f l)(hm:Mem w L){k:Nat}(hk:k<n)(off:Nat):(place (sz f) ao k off).isSome=true:=by
 obtain⟨b,o,rfl, -⟩:=h.cell hm hk;rw[vS];rfl
theorem Reads.aDH{k:Nat}(t:Take (Proofs.YtofckcabpchcmaaGreatDoor.md m) F F')(hk:k<m.us.length)(h:Reads w R F):Reads w (Proofs.YtofckcabpchcmaaGreatDoor.rd (m.us.getD k default).co (m.us.getD k default).u.code.length (m.us.getD k default).cc dB (m.us.getD k default).u.code::R) F:=
 .cons t eO (fun h=>⟨jJ.2 ⟨(nI.1 h).code _ (ML.lW hk),rfl⟩,fun b hb=>x5.2 (.inr (.inr ⟨_,ML.lW hk, .inr (iZ.1 hb)⟩))⟩) h
theorem Reads.aDI{k:Nat}(t:Take (Proofs.YtofckcabpchcmaaGreatDoor.md m) F F')(hk:k<m.us.length)(h:Reads w R F):Reads w (Proofs.YtofckcabpchcmaaGreatDoor.rd (m.us.getD k default).lo (m.us.getD k default).u.locals.length (m.us.getD k default).lc aY (m.us.getD k default).u.locals::R) F:=
 .cons t eO (fun h=>⟨jJ.2 ⟨(nI.1 h).locals _ (ML.lW hk),rfl⟩,fun b hb=>x5.2 (.inr (.inr ⟨_,ML.lW hk, .inl (iZ.1 hb)⟩))⟩) h
end
section
variable{P:Program} [eT P]{Q:Exit→Act→World→Prop}{N:Nd}{E:Env}{L L':List Chunk}
variable{dst:Option Tmp}{ty:TypeId}{pos:String}{aft:Array Edge}{g:Option (Nat×Bool)}
theorem aB.aAw{m:ML}{k n cap:Nat}{ao:Option Addr}{t e:TypeId}{s' b' s2 b2 hi:Nat}{d2:dO}{z' z2:List Value}{x:Operand}{oh:Option Operand}{C:Env→List Chunk→Prop}(hx:ev E x=some (.slice ao n cap))(ha:ao=(m.us.getD k default).lo)(hn:n=(m.us.getD k default).u.locals.length)(hc:cap=(m.us.getD k default).lc)
  (ht:bB P t=some ⟨.slice e,s',b',z'⟩) (he:bB P e=some ⟨d2,s2,b2,z2⟩)
  (hm:Take (md m) L L') (hk:k<m.us.length) (hs2:s2=sz aY) (hb:eB E n none oh 0 hi) (h2:hi≤n) (hd:cR N dst=true)
  (kk:∀ao' cap',C (cP dst (.slice ao' hi cap') E) (rd ao' hi cap' aY ((m.us.getD k default).u.locals.take hi)::L)):aB P Q N ⟨dst, .slice t x none oh none,ty,pos,aft,g⟩ E L C:=fun K hK A w hS hM=>by
 subst ha hn hc;have hrow:=(nI.1 (hM.has hm)).locals _ (ML.lW hk);have hcap:(m.us.getD k default).u.locals.length≤(m.us.getD k default).lc:=by
  obtain⟨-, -,ao',cap',g2,g3, -⟩:=hrow;simp only[Value.slice.injEq]at g2;obtain⟨-, -,rfl⟩:=g2;exact g3
 unfold Oper.wp;rw[DI hS hx ht he hb (Nat.zero_le _) (by omega) w];subst hs2;have hr:=Row.sub hrow rfl (Nat.zero_le hi) h2;have hkk:=kk (if(m.us.getD k default).lc=0 then(m.us.getD k default).lo else(m.us.getD k default).lo.map (·.add (0*sz aY))) ((m.us.getD k default).lc-0);refine hK _ _ hkk _ _ ?_ (hM.dup hm eO (jJ.2 ⟨by simpa using hr,List.length_take_of_le h2⟩) (fun c hc=>x5.2 (.inr (.inr ⟨_,ML.lW hk, .inl ⟨MF (iZ.1 hc).1 _,by have:=(iZ.1 hc).2;omega⟩⟩))) mH);exact hS.put (.slice (if(m.us.getD k default).lc=0 then(m.us.getD k default).lo else(m.us.getD k default).lo.map (·.add (0*sz aY))) hi ((m.us.getD k default).lc-0)) hd
end
end
end Go.Proofs.YtofckcabpchcmaaGreatDoor
