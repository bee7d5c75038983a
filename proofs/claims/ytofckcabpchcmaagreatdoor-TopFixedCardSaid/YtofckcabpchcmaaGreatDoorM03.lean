/- A region that draws its order, over states that are said by lists: what only yields a value is taken first. Of whatever program. -/
import Derived.Test.YtofckcabpchcmaaGreatDoorM02
import Derived.Deep.Quiet
import Derived.Carry
import Derived.Lib.SliceRun
set_option linter.unusedVariables false
set_option linter.unusedSimpArgs false
set_option linter.unusedSectionVars false
set_option maxRecDepth 100000
namespace Go.Proofs.YtofckcabpchcmaaGreatDoor
section
open Go
section
variable(P:Program)(ops:Array Oper)(Q:Exit→Act→World→Prop)(N:Nd)(e:Nat)(LT:List Chunk)
def RunT(fuel:Nat)(listed:Array Bool)(E:Env)(L:List Chunk):Prop:=∀a w,Sat N a E→Mem w L→o9 P .any ops Q e (fun w=>Mem w LT) fuel listed a w
def aO:Prop:=∀c a w d v,Q (.panic c) (Act.put a d v) w→Q (.panic c) a w
def Good(listed:Array Bool)(L:List Chunk):Prop:=listed.getD e false=true∨∃F,aQ LT L F
end
section
variable{P:Program}{ops:Array Oper}{Q:Exit→Act→World→Prop}{N:Nd}{e:Nat}{LT:List Chunk}{E:Env}{L F:List Chunk}{fuel:Nat}{listed:Array Bool}
theorem aB.draw{id:Nat}{l:List Oper}(e:Nat)(LT:List Chunk)(hm:P.follows .mixedOrders=true)(n:Nat)(hn:l.length=n)(h:RunT P l.toArray Q N e LT n (Array.replicate n false) E L):aB P Q N (.region id l.toArray true) E L:=
 fun a w hs hM=>aEh e (fun w=>Mem w LT) hm (by subst hn;exact h a w.drew hs hM.drew)
theorem RunT.aG8(i:Nat){d:Tmp}{op:Op}{ty:TypeId}{pos:String}{aft:Array Edge}{v:Value}(hi:ops[i]?=some ⟨some d,op,ty,pos,aft,none⟩)(hns:Region.noSelect ops=true)(hf:Region.free .any ops listed i=true)(hr:(Region.ready .any ops listed).contains i=true)(hie:Nat.beq i e=false)
  (hQ:aO Q) (hd:Nat.blt d N.n=true) (hy:Still P N ⟨some d,op,ty,pos,aft,none⟩ E [] v) (ht:Good e LT listed L) (h:RunT P ops Q N e LT fuel (listed.setIfInBounds i true) ((d,v)::E) L):RunT P ops Q N e LT (fuel+1) listed E L:=
 fun a w hs hM=>N2 hi (Region.noSelect_spec hns) (fun c a w hq=>hQ c a w _ _ hq) fuel listed a w (Region.free_spec hi hf) (by simpa using hr) (fun h=>by subst h;simp at hie)
  (.inl ⟨by simp[Region.wanted],fun w' _=>hy a w' hs (Mem.nil w')⟩) (ht.imp id fun⟨F,t⟩=>(hM.aS t).left) (h _ w (hs.put (dst:=some d) v hd) hM)
theorem RunT.aGb(i:Nat){d:Tmp}{op:Op}{ty:TypeId}{pos:String}{aft:Array Edge}{v:Value}(hi:ops[i]?=some ⟨some d,op,ty,pos,aft,none⟩)(hns:Region.noSelect ops=true)(hf:Region.free .any ops listed i=true)(hr:(Region.ready .any ops listed).contains i=true)(hcl:A6 .any ops listed=true)(hw:sE .any ops i ops.size e=true)
  (hQ:aO Q) (hd:Nat.blt d N.n=true) (ht:aQ LT L F) (hy:Still P N ⟨some d,op,ty,pos,aft,none⟩ E LT v) (h:RunT P ops Q N e LT fuel (listed.setIfInBounds i true) ((d,v)::E) L):RunT P ops Q N e LT (fuel+1) listed E L:=
 fun a w hs hM=>YB hi (Region.noSelect_spec hns) (fun c a w hq=>hQ c a w _ _ hq) hw fuel listed a w (PA hcl) (Region.free_spec hi hf) (by simpa using hr)
  (.inl ⟨by simp[Region.wanted],fun w' hw'=>hy a w' hs hw'⟩) (hM.aS ht).left (h _ w (hs.put (dst:=some d) v hd) hM)
theorem RunT.takeN(i:Nat){d:Tmp}{op:Op}{ty:TypeId}{pos:String}{aft:Array Edge}{v:Value}(hi:ops[i]?=some ⟨some d,op,ty,pos,aft,none⟩)(hns:Region.noSelect ops=true)(hf:Region.free .any ops listed i=true)(hr:(Region.ready .any ops listed).contains i=true)(he:Nat.ble ops.size e=true)(hsz:Nat.beq listed.size ops.size=true)
  (hQ:aO Q) (hd:Nat.blt d N.n=true) (ht:aQ LT L F) (hy:Still P N ⟨some d,op,ty,pos,aft,none⟩ E LT v) (h:RunT P ops Q N e LT fuel (listed.setIfInBounds i true) ((d,v)::E) L):RunT P ops Q N e LT (fuel+1) listed E L:=
 fun a w hs hM=>YA hi (Region.noSelect_spec hns) (fun c a w hq=>hQ c a w _ _ hq) (Nat.le_of_ble_eq_true he) fuel listed a w (Nat.eq_of_beq_eq_true hsz) (Region.free_spec hi hf) (by simpa using hr)
  (.inl ⟨by simp[Region.wanted],fun w' hw'=>hy a w' hs hw'⟩) (hM.aS ht).left (h _ w (hs.put (dst:=some d) v hd) hM)
theorem RunT.aGa(i:Nat){oi:Oper}{v:Value}{j:Nat}{want:Bool}(hi:ops[i]?=some oi)(hns:Region.noSelect ops=true)(hf:Region.free .any ops listed i=true)(hr:(Region.ready .any ops listed).contains i=true)(he:Nat.ble ops.size e=true)(hsz:Nat.beq listed.size ops.size=true)
  (hQ:aO Q) (hg:oi.guard=some (j,want)) (hgd:gd ops E j=some (.bool want)) (hd:cF N oi.dst=true) (ht:aQ LT L F) (hy:Still P N oi E LT v) (h:RunT P ops Q N e LT fuel (listed.setIfInBounds i true) (cD oi.dst v E) L):RunT P ops Q N e LT (fuel+1) listed E L:=
 fun a w hs hM=>YA hi (Region.noSelect_spec hns) (fun c a w hq=>hQ c a w _ _ hq) (Nat.le_of_ble_eq_true he) fuel listed a w (Nat.eq_of_beq_eq_true hsz) (Region.free_spec hi hf) (by simpa using hr)
  (.inl ⟨by rw[tQ hs hg hgd];simp,fun w' hw'=>hy a w' hs hw'⟩) (hM.aS ht).left (h _ w (hs.put v hd) hM)
theorem RunT.aGc(i:Nat){oi:Oper}{j:Nat}{want t:Bool}(hi:ops[i]?=some oi)(hns:Region.noSelect ops=true)(hf:Region.free .any ops listed i=true)(hr:(Region.ready .any ops listed).contains i=true)(hie:Nat.beq i e=false)
  (hQ:aO Q) (hg:oi.guard=some (j,want)) (hgd:gd ops E j=some (.bool t)) (hne:(t==want)=false) (hd:cF N oi.dst=true) (ht:Good e LT listed L) (h:RunT P ops Q N e LT fuel (listed.setIfInBounds i true) (cD oi.dst undef E) L):RunT P ops Q N e LT (fuel+1) listed E L:=
 fun a w hs hM=>N2 hi (Region.noSelect_spec hns) (fun c a w hq=>hQ c a w _ _ hq) fuel listed a w (Region.free_spec hi hf) (by simpa using hr) (fun h=>by subst h;simp at hie)
  (.inr ⟨by rw[tQ hs hg hgd];exact hne,rfl⟩) (ht.imp id fun⟨F,t⟩=>(hM.aS t).left) (h _ w (hs.put undef hd) hM)
theorem RunT.aGd(i:Nat){oi:Oper}{j:Nat}{want:Bool}(hi:ops[i]?=some oi)(hns:Region.noSelect ops=true)(hf:Region.free .any ops listed i=true)(hr:(Region.ready .any ops listed).contains i=true)(hie:Nat.beq i e=false)
  (hQ:aO Q) (hg:oi.guard=some (j,want)) (hgd:gd ops E j=some undef) (hd:cF N oi.dst=true) (ht:Good e LT listed L) (h:RunT P ops Q N e LT fuel (listed.setIfInBounds i true) (cD oi.dst undef E) L):RunT P ops Q N e LT (fuel+1) listed E L:=
 fun a w hs hM=>N2 hi (Region.noSelect_spec hns) (fun c a w hq=>hQ c a w _ _ hq) fuel listed a w (Region.free_spec hi hf) (by simpa using hr) (fun h=>by subst h;simp at hie)
  (.inr ⟨by unfold Region.wanted;rw[hg];simp only[GS hs hgd,undef];rfl,rfl⟩) (ht.imp id fun⟨F,t⟩=>(hM.aS t).left) (h _ w (hs.put undef hd) hM)
theorem RunT.part{d:Nat}(t:Bool)(hl:look E d=some (.bool t))(h1:t=true→RunT P ops Q N e LT fuel listed ((d, .bool true)::E) L)(h2:t=false→RunT P ops Q N e LT fuel listed ((d, .bool false)::E) L):RunT P ops Q N e LT fuel listed E L:=by
 intro a w hs hM
 cases t with
 |true=>exact h1 rfl a w (hs.o5 hl) hM
 |false=>exact h2 rfl a w (hs.o5 hl) hM
theorem RunT.one(i:Nat){o:Oper}(hr:Region.ready .any ops listed=[i])(ho:ops[i]?=some o)(hg:o.guard=none)
  (h:aA P Q N o E L (fun E' L'=>Good e LT (listed.setIfInBounds i true) L'∧RunT P ops Q N e LT fuel (listed.setIfInBounds i true) E' L')):RunT P ops Q N e LT (fuel+1) listed E L:=
 fun a w hs hM=>TA hr ho fun K' hK'=>by
  rw[if_pos (by simp[Region.wanted,hg])];exact h K' (fun E' L' hc a w hs hm=>hK' a w (hc.1.imp id fun⟨F,t⟩=>(hm.aS t).left) (hc.2 a w hs hm)) a w hs hM
theorem RunT.done(hr:Region.ready .any ops listed=[])(h:End Q N .normal E L):RunT P ops Q N e LT fuel listed E L:=fun a w hs hM=>aA7 hr (h a w hs hM) fuel
theorem aE.part{l:List Oper}{d:Nat}(t:Bool)(hl:look E d=some (.bool t))(h1:t=true→aE P ops Q N l ((d, .bool true)::E) L)(h2:t=false→aE P ops Q N l ((d, .bool false)::E) L):aE P ops Q N l E L:=by
 intro a w hs hM
 cases t with
 |true=>exact h1 rfl a w (hs.o5 hl) hM
 |false=>exact h2 rfl a w (hs.o5 hl) hM
def aM(P:Program)(ops:Array Oper)(Q:Exit→Act→World→Prop)(N:Nd)(l:List Oper)(E:Env)(L:List Chunk):Prop:=
 ∀a,Sat N a E→wpQuiet P ops (fun w=>Mem w L) (fun a'=>∀w',Mem w' L→Q .normal a' w') l a
theorem aB.quiet{id:Nat}{l:List Oper}(hm:P.follows .mixedOrders=true)(hB:Region.lexB .any l.toArray=true)(h:aM P l.toArray Q N l E L):aB P Q N (.region id l.toArray true) E L:=
 fun a w hs hM=>wp_region_quiet (C:=fun w=>Mem w L) hm hB hM.drew (by simpa using h a hs)
theorem aM.nil(h:End Q N .normal E L):aM P ops Q N [] E L:=fun a hs=>wpQuiet_nil (fun w hM=>h a w hs hM)
theorem UP{o:Oper}{a:Act}{v:Value}{C:World→Prop}{K:Act→Prop}(h:∀w,C w→(execOp a.eval o).run P w= .ok (.value v) w)(hn:K (a.put o.dst v)):o.quiet P a C K:=
 ⟨v,fun w hw=>by unfold Oper.quietAt;rw[h w hw];exact⟨rfl,rfl⟩,hn⟩
theorem aM.val{d:Tmp}{op:Op}{ty:TypeId}{pos:String}{aft:Array Edge}{l:List Oper}{v:Value}(h:Still P N ⟨some d,op,ty,pos,aft,none⟩ E L v)(hd:Nat.blt d N.n=true)(k:aM P ops Q N l ((d,v)::E) L):aM P ops Q N (⟨some d,op,ty,pos,aft,none⟩::l) E L:=by
 intro a hs;refine wpQuiet_step fun K hK=>?_
 rw[if_pos (by simp[Region.wanted])];exact UP (fun w hM=>h a w hs hM) (hK _ (k _ (hs.put (dst:=some d) v hd)))
theorem aM.yes{d:Tmp}{op:Op}{ty:TypeId}{pos:String}{aft:Array Edge}{l:List Oper}{v:Value}{j:Nat}{want:Bool}(hgd:gd ops E j=some (.bool want))(h:Still P N ⟨some d,op,ty,pos,aft,some (j,want)⟩ E L v)(hd:Nat.blt d N.n=true)(k:aM P ops Q N l ((d,v)::E) L):aM P ops Q N (⟨some d,op,ty,pos,aft,some (j,want)⟩::l) E L:=by
 intro a hs;refine wpQuiet_step fun K hK=>?_
 rw[tQ hs rfl hgd,if_pos (by simp)];exact UP (fun w hM=>h a w hs hM) (hK _ (k _ (hs.put (dst:=some d) v hd)))
theorem aM.no{d:Tmp}{op:Op}{ty:TypeId}{pos:String}{aft:Array Edge}{l:List Oper}{j:Nat}{want t:Bool}(hgd:gd ops E j=some (.bool t))(hne:(t==want)=false)(hd:Nat.blt d N.n=true)(k:aM P ops Q N l ((d,undef)::E) L):aM P ops Q N (⟨some d,op,ty,pos,aft,some (j,want)⟩::l) E L:=by
 intro a hs;refine wpQuiet_step fun K hK=>?_
 rw[tQ hs rfl hgd,hne];exact hK _ (k _ (hs.put (dst:=some d) undef hd))
theorem aM.undef{d:Tmp}{op:Op}{ty:TypeId}{pos:String}{aft:Array Edge}{l:List Oper}{j:Nat}{want:Bool}(hgd:gd ops E j=some undef)(hd:Nat.blt d N.n=true)(k:aM P ops Q N l ((d,undef)::E) L):aM P ops Q N (⟨some d,op,ty,pos,aft,some (j,want)⟩::l) E L:=by
 intro a hs;refine wpQuiet_step fun K hK=>?_
 have:Region.wanted ⟨some d,op,ty,pos,aft,some (j,want)⟩ (yielded ops a.tmps)=false:=by
  unfold Region.wanted;simp only[GS hs hgd,Go.undef];rfl
 rw[this];exact hK _ (k _ (hs.put (dst:=some d) Go.undef hd))
theorem aM.part{l:List Oper}{d:Nat}(t:Bool)(hl:look E d=some (.bool t))(h1:t=true→aM P ops Q N l ((d, .bool true)::E) L)(h2:t=false→aM P ops Q N l ((d, .bool false)::E) L):aM P ops Q N l E L:=by
 intro a hs
 cases t with
 |true=>exact h1 rfl a (hs.o5 hl)
 |false=>exact h2 rfl a (hs.o5 hl)
theorem aE.yes{o:Oper}{l:List Oper}{j:Nat}{want:Bool}(hg:o.guard=some (j,want))(hgd:gd ops E j=some (.bool want))(h:aA P Q N o E L (fun E' L'=>aE P ops Q N l E' L')):aE P ops Q N (o::l) E L:=by
 intro a w hs hm;refine wpList_step fun K hK=>?_
 rw[tQ hs hg hgd,if_pos (by simp)];exact h K (fun E' L' hr a w hs hm=>hK a w (hr a w hs hm)) a w hs hm
theorem aE.no{d:Tmp}{op:Op}{ty:TypeId}{pos:String}{aft:Array Edge}{l:List Oper}{j:Nat}{want t:Bool}(hgd:gd ops E j=some (.bool t))(hne:(t==want)=false)(hd:Nat.blt d N.n=true)(k:aE P ops Q N l ((d,undef)::E) L):aE P ops Q N (⟨some d,op,ty,pos,aft,some (j,want)⟩::l) E L:=by
 intro a w hs hm;refine wpList_step fun K hK=>?_
 rw[tQ hs rfl hgd,hne];exact hK _ _ (k _ _ (hs.put (dst:=some d) undef hd) hm)
theorem aE.undef{d:Tmp}{op:Op}{ty:TypeId}{pos:String}{aft:Array Edge}{l:List Oper}{j:Nat}{want:Bool}(hgd:gd ops E j=some Go.undef)(hd:Nat.blt d N.n=true)(k:aE P ops Q N l ((d,Go.undef)::E) L):aE P ops Q N (⟨some d,op,ty,pos,aft,some (j,want)⟩::l) E L:=
 aE.aB9 rfl hgd hd k
def slot(ops:Array Oper)(j:Nat):Option Nat:=match ops[j]? with
 |some o=>o.dst
 |none=>none
section
variable{d0 d:Tmp}{op:Op}{ty:TypeId}{pos:String}{aft:Array Edge}{l:List Oper}{j:Nat}{want t:Bool}
theorem aE.BP(hj:slot ops j=some d)(hl:look E d=some (.bool t))(ht:t=true)(k:aE P ops Q N (⟨some d0,op,ty,pos,aft,some (j,want)⟩::l) ((d, .bool true)::E) L):aE P ops Q N (⟨some d0,op,ty,pos,aft,some (j,want)⟩::l) E L:=
 fun a w hs hM=>k a w (hs.o5 (ht▸hl)) hM
theorem aE.BO(hj:slot ops j=some d)(hl:look E d=some (.bool t))(ht:t=false)(k:aE P ops Q N (⟨some d0,op,ty,pos,aft,some (j,want)⟩::l) ((d, .bool false)::E) L):aE P ops Q N (⟨some d0,op,ty,pos,aft,some (j,want)⟩::l) E L:=
 fun a w hs hM=>k a w (hs.o5 (ht▸hl)) hM
theorem aE.ask(hj:slot ops j=some d)(hl:look E d=some (.bool t))(h1:t=true→aE P ops Q N (⟨some d0,op,ty,pos,aft,some (j,want)⟩::l) ((d, .bool true)::E) L)(h2:t=false→aE P ops Q N (⟨some d0,op,ty,pos,aft,some (j,want)⟩::l) ((d, .bool false)::E) L):aE P ops Q N (⟨some d0,op,ty,pos,aft,some (j,want)⟩::l) E L:=
 aE.part t hl h1 h2
theorem aM.BP(hj:slot ops j=some d)(hl:look E d=some (.bool t))(ht:t=true)(k:aM P ops Q N (⟨some d0,op,ty,pos,aft,some (j,want)⟩::l) ((d, .bool true)::E) L):aM P ops Q N (⟨some d0,op,ty,pos,aft,some (j,want)⟩::l) E L:=
 fun a hs=>k a (hs.o5 (ht▸hl))
theorem aM.BO(hj:slot ops j=some d)(hl:look E d=some (.bool t))(ht:t=false)(k:aM P ops Q N (⟨some d0,op,ty,pos,aft,some (j,want)⟩::l) ((d, .bool false)::E) L):aM P ops Q N (⟨some d0,op,ty,pos,aft,some (j,want)⟩::l) E L:=
 fun a hs=>k a (hs.o5 (ht▸hl))
theorem aM.ask(hj:slot ops j=some d)(hl:look E d=some (.bool t))(h1:t=true→aM P ops Q N (⟨some d0,op,ty,pos,aft,some (j,want)⟩::l) ((d, .bool true)::E) L)(h2:t=false→aM P ops Q N (⟨some d0,op,ty,pos,aft,some (j,want)⟩::l) ((d, .bool false)::E) L):aM P ops Q N (⟨some d0,op,ty,pos,aft,some (j,want)⟩::l) E L:=
 aM.part t hl h1 h2
end
theorem aO.p7{K:Act→World→Prop}(h:aO Q):aO (Exit.then K Q):=h
theorem aO.block{id:Nat}(h:aO Q):aO (Exit.inBlock id Q):=h
theorem aO.body{fn:Func}{R:Ending→World→Prop}:aO (bodyPost P fn R):=fun c a w d v h=>by
 cases d<;>exact h
theorem Good.has(t:aQ LT L F):Good e LT listed L:= .inr ⟨F,t⟩
theorem Good.up(h:listed.getD e false=true):Good e LT listed L:= .inl h
end
def aT(n:Int):List Value:=[.int .i64 n]
def WX(c:Nat):List Value:=[.int .u8 (c:Int)]
def nP(b:Bool):List Value:=[.bool b]
instance:bF aT:=⟨fun _=>rfl,by decide,fun a u hu=>by simp[aT]at hu;subst hu;rfl⟩
instance:bF WX:=⟨fun _=>rfl,by decide,fun a u hu=>by simp[WX]at hu;subst hu;rfl⟩
instance:bF nP:=⟨fun _=>rfl,by decide,fun a u hu=>by simp[nP]at hu;subst hu;rfl⟩
theorem iK(k:Nat):(k:Int)+1=((k+1:Nat):Int):=by omega
theorem Mem.keeps{w w':World}{cs:List Chunk}{S:Nat→Prop}(h:Mem w cs)(k:bV S w w')(hs:∀c∈cs,∀b,c.cO b→¬S b):Mem w' cs:=
 ⟨fun c hc=>c.kY k (hs c hc) (h.all c hc),h.sep⟩
@[irreducible] def aR (cs : List Chunk) : Chunk where
 holds w:=Mem w cs∧∀c∈cs,c.bB=true
 cO b:=∃c∈cs,c.cO b
 bB:=true
 kY k hs h:=⟨h.1.keeps k (fun c hc b hb=>hs b ⟨c,hc,hb⟩),h.2⟩
 lt h b hb:=by obtain⟨c,hc,hb⟩:=hb;exact c.lt (h.1.all c hc) b hb
theorem pP{w:World}{cs:List Chunk}:(aR cs).holds w↔Mem w cs∧∀c∈cs,c.bB=true:=by unfold aR;exact Iff.rfl
theorem wI{b:Nat}{cs:List Chunk}:(aR cs).cO b↔∃c∈cs,c.cO b:=by unfold aR;exact Iff.rfl
theorem jT{cs:List Chunk}:(aR cs).bB=true:=by unfold aR;rfl
theorem Mem.pack{w:World}{cs L:List Chunk}(h:Mem w (cs ++L))(hx:∀c∈cs,c.bB=true):Mem w (aR cs::L):=by
 have hsep:=List.pairwise_append.1 h.sep;refine⟨fun c hc=>?_,List.pairwise_cons.2 ⟨fun d hd _ b hb hb'=>?_,hsep.2.1⟩⟩
 ·rcases List.mem_cons.1 hc with rfl|hc
  ·exact pP.2 ⟨h.left,hx⟩
  ·exact h.all c (List.mem_append_right _ hc)
 ·obtain⟨c,hc,hcb⟩:=wI.1 hb;exact hsep.2.2 c hc d hd (.inl (hx c hc)) b hcb hb'
theorem Mem.unpack{w:World}{cs L:List Chunk}(h:Mem w (aR cs::L)):Mem w (cs ++L):=by
 have hb:=pP.1 (h.all (aR cs) (by simp));have hp:=List.pairwise_cons.1 h.sep;refine⟨fun c hc=>?_,List.pairwise_append.2 ⟨hb.1.sep,hp.2,fun c hc d hd _ b hcb hdb=>?_⟩⟩
 ·rcases List.mem_append.1 hc with hc|hc
  ·exact hb.1.all c hc
  ·exact h.all c (by simp[hc])
 ·exact hp.1 d hd (.inl jT) b (wI.2 ⟨c,hc,hcb⟩) hdb
theorem Mem.eX{w:World}{L:List Chunk}(h:Mem w L):Mem w (aR []::L):=Mem.pack (cs:=[]) h (by simp)
theorem Mem.A5{w:World}{cs ds L L' F:List Chunk}(h:Mem w L)(t:Take (aR cs) L L')(t2:aQ ds L' F)(hx:∀c∈ds,c.bB=true):Mem w (aR (cs ++ds)::F):=by
 have h1:=(h.take t).unpack;have hb:=pP.1 (h.has t);have h2:Mem w (cs ++(ds ++F)):=h1.perm (List.Perm.append_left _ t2.perm);rw[←List.append_assoc]at h2;exact h2.pack (fun c hc=>(List.mem_append.1 hc).elim (hb.2 c) (hx c))
theorem Mem.dup{w:World}{L L':List Chunk}{c c':Chunk}(h:Mem w L)(t:Take c L L')(hx:c'.bB=false)(hc:c'.holds w)(hf:∀b,c'.cO b→c.cO b)(hcx:c.bB=false):Mem w (c'::L):=by
 refine⟨fun d hd=>?_,List.pairwise_cons.2 ⟨fun d hd hdx b hb hb'=>?_,h.sep⟩⟩
 ·rcases List.mem_cons.1 hd with rfl|hd
  ·exact hc
  ·exact h.all d hd
 ·have hdx:d.bB=true:=by rcases hdx with h|h;rw[hx]at h;cases h;exact h
  have h2:=h.take t;have hd2:d∈c::L':=t.perm.mem_iff.1 hd;rcases List.mem_cons.1 hd2 with rfl|hd2
  ·rw[hcx]at hdx;cases hdx
  ·exact(List.pairwise_cons.1 h2.sep).1 d hd2 (.inr hdx) b (hf b hb) hb'
section
variable{α:Type}{iα:Inhabited α}{ao:Option Addr}{n cap:Nat}{e:TypeId}{f:α→List Value}{ef:bF f}{l:List α}
theorem Row.sub [bF f]{w:World}{lo hi:Nat}(h:Row w (.slice ao n cap) (sz f) n (l.flatMap f))(hln:l.length=n)(h1:lo≤hi)(h2:hi≤n):
  Row w (.slice (if cap=lo then ao else ao.map (·.add (lo*sz f))) (hi-lo) (cap-lo)) (sz f) (hi-lo) (((l.take hi).drop lo).flatMap f):=by
 obtain⟨g1,g2,ao',cap',g3,g4,g5⟩:=h;simp only[Value.slice.injEq]at g3;obtain⟨rfl, -,rfl⟩:=g3;refine⟨by rw[sY];simp;congr 1;omega,by omega,_,_,rfl,by omega,fun hn=>?_⟩;obtain⟨b,o,rfl,hc⟩:=g5 (by omega);rw[if_neg (by omega)];refine⟨b,o+lo*sz f,by simp[Addr.sS],fun j hj=>?_⟩;have hmul:(hi-lo)*sz f+lo*sz f=hi*sz f:=by rw[←Nat.add_mul];congr 1;omega
 have hmul2:hi*sz f≤n*sz f:=Nat.mul_le_mul_right _ h2;rw[←IS,←QT,List.getElem?_drop,List.getElem?_take,if_pos (by omega),Nat.add_assoc];exact hc _ (by omega)
theorem TI{lo:Nat}{m c:Nat}{k:Nat}(h:(Value.slice (if cap=lo then ao else ao.map (·.add (lo*m))) c (cap-lo)).ownBlock=some k)(n':Nat):(Value.slice ao n' cap).ownBlock=some k:=by
 cases ao with
 |none=>simp[Value.ownBlock]at h
 |some a0=>
  by_cases hc':cap=lo
  ·rw[if_pos hc']at h;exact h
  ·rw[if_neg hc']at h;simp only[Value.ownBlock,Option.map_some,Option.some.injEq]at h⊢;rw[←h];unfold Addr.add
   split<;>rfl
variable{P:Program} [eP P]{Q:Exit→Act→World→Prop}{N:Nd}{E:Env}{L L':List Chunk}
variable{dst:Option Tmp}{ty:TypeId}{pos:String}{aft:Array Edge}{g:Option (Nat×Bool)}
theorem aA.aAU{t:TypeId}{s' b' s2 b2 lo hi:Nat}{d2:cV}{z' z2:List Value}{x:Operand}{ol oh:Option Operand}{C:Env→List Chunk→Prop}(hx:ev E x=some (.slice ao n cap))(ht:aW P t=some ⟨.slice e,s',b',z'⟩)(he:aW P e=some ⟨d2,s2,b2,z2⟩)
  (hm:Take (rd ao n cap f l) L L') (hs2:s2=sz f) (hb:eF E n ol oh lo hi) (h1:lo≤hi) (h2:hi≤n) (hd:cF N dst=true)
  (k:∀ao' cap',C (cD dst (.slice ao' (hi-lo) cap') E) (rd ao' (hi-lo) cap' f ((l.take hi).drop lo)::L)):aA P Q N ⟨dst, .slice t x ol oh none,ty,pos,aft,g⟩ E L C:=fun K hK A w hS hM=>by
 obtain⟨hrow,hln⟩:=kA.1 (hM.has hm);have hcap:n≤cap:=by
  obtain⟨-, -,ao',cap',g2,g3, -⟩:=hrow;simp only[Value.slice.injEq]at g2;obtain⟨-, -,rfl⟩:=g2;exact g3
 unfold Oper.wp;rw[FP hS hx ht he hb h1 (by omega) w];subst hs2;refine hK _ _ (k _ _) _ _ (hS.put _ hd) (hM.dup hm fP (kA.2 ⟨Row.sub hrow hln h1 h2,by simp;omega⟩) (fun c hc=>j9.2 ⟨TI (j9.1 hc).1 n,by have:=(j9.1 hc).2;omega⟩) fP)
theorem aA.aAV{t:TypeId}{s' b' s2 b2 hi:Nat}{d2:cV}{z' z2:List Value}{x:Operand}{oh:Option Operand}{C:Env→List Chunk→Prop}(hx:ev E x=some (.slice ao n cap))(ht:aW P t=some ⟨.slice e,s',b',z'⟩)(he:aW P e=some ⟨d2,s2,b2,z2⟩)
  (hm:Take (rd ao n cap f l) L L') (hs2:s2=sz f) (hb:eF E n none oh 0 hi) (h2:hi≤n) (hd:cF N dst=true)
  (k:∀ao' cap',C (cD dst (.slice ao' hi cap') E) (rd ao' hi cap' f (l.take hi)::L)):aA P Q N ⟨dst, .slice t x none oh none,ty,pos,aft,g⟩ E L C:=
 aA.aAU hx ht he hm hs2 hb (Nat.zero_le _) h2 hd (fun ao' cap'=>by simpa using k ao' cap')
theorem aA.aAP{t:TypeId}{s' b' s2 b2 hi:Nat}{d2:cV}{z' z2:List Value}{x:Operand}{oh:Option Operand}{C:Env→List Chunk→Prop}(hx:ev E x=some (.slice ao n cap))(ht:aW P t=some ⟨.slice e,s',b',z'⟩)(he:aW P e=some ⟨d2,s2,b2,z2⟩)
  (hm:Take (arr ao n cap e f l) L L') (hs2:s2=sz f) (hb:eF E n none oh 0 hi) (h2:hi≤n) (hd:cF N dst=true)
  (k:∀ao' cap',C (cD dst (.slice ao' hi cap') E) (arr ao' hi cap' e f (l.take hi)::L')):aA P Q N ⟨dst, .slice t x none oh none,ty,pos,aft,g⟩ E L C:=
 aA.PU hx ht he hm hs2 hb (Nat.zero_le _) h2 hd (fun ao' cap'=>by simpa using k ao' cap')
theorem aA.aAQ{t:TypeId}{s' b' s2 b2 lo:Nat}{d2:cV}{z' z2:List Value}{x:Operand}{ol:Option Operand}{C:Env→List Chunk→Prop}(hx:ev E x=some (.slice ao n cap))(ht:aW P t=some ⟨.slice e,s',b',z'⟩)(he:aW P e=some ⟨d2,s2,b2,z2⟩)
  (hm:Take (arr ao n cap e f l) L L') (hs2:s2=sz f) (hb:eF E n ol none lo n) (h2:lo≤n) (hn:l.length=n) (hd:cF N dst=true)
  (k:∀ao' cap',C (cD dst (.slice ao' (n-lo) cap') E) (arr ao' (n-lo) cap' e f (l.drop lo)::L')):aA P Q N ⟨dst, .slice t x ol none none,ty,pos,aft,g⟩ E L C:=
 aA.PU hx ht he hm hs2 hb h2 (Nat.le_refl _) hd (fun ao' cap'=>by have:=k ao' cap';rwa [List.take_of_length_le (by omega)])
end
section
variable{P:Program} [eP P]{N:Nd}{E:Env}{L L' F:List Chunk}{σ:Type}{fn:Func}{post:σ→Prop}{val:σ→Value}{mem:σ→List Chunk}{w0:World}{S:Nat→Prop}
theorem xD{w:World}{t:TypeId}{b s' b':Nat}{bt:TypeId}{fs:List (Nat×TypeId)}{z' cs:List Value}(ht:aW P t=some ⟨.struct fs,s',b',z'⟩)(hb:eE w b cs.toArray bt)(hl:cs.length=s'):(loadVar t ⟨b,0,none⟩).run P w= .ok (.agg cs.toArray) w:=by
 obtain⟨l,h1, -⟩:=(b7 ht).struct;obtain⟨x',z,h3,h4, -⟩:=(b7 ht).info;exact run_loadVar_mid (P:=P) w b 0 t cs _ (fun j v hj=>by rw[hb.cell];simpa using hj) h1 rfl (by rw[h3];simp[h4,hl])
theorem End.imp{Q:Exit→Act→World→Prop}{e:Exit}{L':List Chunk}(t:∀w,Mem w L→Mem w L')(h:End Q N e E L'):End Q N e E L:=fun a w hs hm=>h a w hs (t w hm)
theorem End.aA6{t u:Tmp}{ty bt:TypeId}{b s' b':Nat}{fs:List (Nat×TypeId)}{z' cs:List Value}{v:Value}(x:σ)(hr:fn.results= #[.cell t ty, .tmp u])(hv:look E t=some (.pointer (some ⟨b,0,none⟩)))(ht:aW P ty=some ⟨.struct fs,s',b',z'⟩)
  (hm:Take (aD b cs bt) L L') (hl:cs.length=s') (hu:look E u=some v) (he:val x= .tuple #[.agg cs.toArray,v]) (hp:post x) (hx:∀c∈mem x,c.bB=true) (hF:aQ (aI w0 S::mem x) L F) (hD:N.ds=[]):End (bodyPost P fn (fZ post val mem w0 S)) N .ret E L:=fun a w hs hM=>by
 have hb:=jU.1 (hM.has hm);have h1:=hs.slot t _ hv;have h2:=hs.slot u _ hu;refine bodyPost_ret (v:= .tuple #[.agg cs.toArray,v]) ?_ (hs.defs.trans hD) ⟨x,hp,by rw[he],hx,(hM.aS hF).left⟩;simp[results,hr,h1,h2,asAddr,xD ht hb hl]
theorem End.aA5{t:Tmp}{ty bt:TypeId}{b s' b':Nat}{fs:List (Nat×TypeId)}{z' cs:List Value}(x:σ)(hr:fn.results= #[.cell t ty])(hv:look E t=some (.pointer (some ⟨b,0,none⟩)))(ht:aW P ty=some ⟨.struct fs,s',b',z'⟩)
  (hm:Take (aD b cs bt) L L') (hl:cs.length=s') (he:val x= .agg cs.toArray) (hp:post x) (hx:∀c∈mem x,c.bB=true) (hF:aQ (aI w0 S::mem x) L F) (hD:N.ds=[]):End (bodyPost P fn (fZ post val mem w0 S)) N .ret E L:=fun a w hs hM=>by
 have hb:=jU.1 (hM.has hm);have h1:=hs.slot t _ hv;refine bodyPost_ret (v:= .agg cs.toArray) ?_ (hs.defs.trans hD) ⟨x,hp,by rw[he],hx,(hM.aS hF).left⟩;simp[results,hr,h1,asAddr,xD ht hb hl]
end
theorem End.some{Q:Exit→Act→World→Prop}{N:Nd}{E:Env}{L F:List Chunk}{K:Act→World→Prop}{σ:Type}{ok:σ→Prop}{inv:σ→Env}{mem:σ→List Chunk}(hK:∀s,ok s→∀a w,Sat N a (inv s)→Mem w (mem s)→K a w)(s:σ)(h1:ok s)
  (hE:Sub (inv s) E) (hL:aQ (mem s) L F):End (Exit.then K Q) N .normal E L:=fun a w hs hm=>hK s h1 a w (hs.sub hE) (hm.aS hL).left
theorem End.aEr{Q:Exit→Act→World→Prop}{N:Nd}{E:Env}{L F':List Chunk}{σ:Type}{K:Act→World→Prop}{ok:σ→Prop}{inv:σ→Env}{mem:σ→List Chunk}{μ:σ→Nat}{m:Nat}
  (hK:∀s',ok s'→μ s'<m→∀a w,Sat N a (inv s')→Mem w (mem s' ++[])→K a w) (s:σ) (h1:ok s) (h2:μ s<m) (hE:Sub (inv s) E) (hL:aQ (mem s) L F'):End (Exit.then K Q) N .normal E L:=
 fun a w hs hm=>hK s h1 h2 a w (hs.sub hE) (by simpa using(hm.aS hL).left)
class cA (κ:Type) [DecidableEq κ] where
 kd:cV
 td:TypeDesc
 kv:κ→Value
 AB:∀{P:Program} [eP P] {t:TypeId} {s b:Nat} {z:List Value},iI P t ⟨kd,s,b,z⟩→P.underlying t=some td
 same:∀a b,Instr.sameNow td (kv a) (kv b)=some (decide (a=b))
 x9:∀{P:Program} {kt:TypeId},P.underlying kt=some td→∀em k w,(Instr.checkKey em 10000 kt (kv k)).run P w= .ok () w
 stay:∀{P:Program} k w,(Instr.keyThatStays (kv k) (kv k)).run P w= .ok (kv k) w
instance:cA Int where
 kd:= .int .i64
 td:= .int .i64
 kv k:= .int .i64 k
 AB h:=h.int
 same a b:=by simp[Instr.sameNow,Bool.beq_eq_decide_eq]
 x9 hk em k w:=by
  rw[show(10000:Nat)=9999+1 from rfl];unfold Instr.checkKey;simp[run_underlying hk]
 stay k w:=by
  unfold Instr.keyThatStays;rw[show(10000:Nat)=9999+1 from rfl];simp[Instr.sameBits]
section
variable{κ:Type} [DecidableEq κ]
def bC{α:Type}:List (κ×α)→κ→Option α
 |[],_=>none
 |(q,a)::r,k=>if q=k then some a else bC r k
def iL{α:Type}:List (κ×α)→κ→α→List (κ×α)
 |[],k,a=>[(k,a)]
 |(q,b)::r,k,a=>if q=k then(q,a)::r else(q,b)::iL r k a
end
section
variable{κ:Type} [DecidableEq κ] [cA κ]{α:Type}(g:α→Value)
theorem IP(k:κ):∀(es:List MapEntry) (l:List (κ×α)) (i:Nat),es.map (fun e=>(e.key,e.val))=l.map (fun p=>(cA.kv p.1,g p.2))→
  match bC l k with
  |none=>Instr.findNow (cA.td κ) (cA.kv k) es i=some none
  |some a=>∃j,Instr.findNow (cA.td κ) (cA.kv k) es i=some (some (i+j,g a))∧(es[j]?).map (·.key)=some (cA.kv k)∧
    ∀a',(es.modify j (fun e=>{e with key:=cA.kv k,val:=g a'})).map (fun e=>(e.key,e.val))=(iL l k a').map (fun p=>(cA.kv p.1,g p.2))
 |[],[],i,_=>by simp[bC,Instr.findNow]
 |[],_::_,i,h=>by simp at h
 |_::_,[],i,h=>by simp at h
 |e::es,(q,b)::l,i,h=>by
  simp only[List.map_cons,List.cons.injEq,Prod.mk.injEq]at h;obtain⟨⟨h1,h2⟩,h3⟩:=h;simp only[bC]
  by_cases hq:q=k
  ·subst hq;simp only[if_pos rfl];refine⟨0,by simp[Instr.findNow,h1,h2,cA.same],by simp[h1],fun a'=>?_⟩;simp only[List.modify_zero_cons,List.map_cons,iL,if_true,h3]
  ·rw[if_neg hq];have ih:=IP k es l (i+1) h3;have hne:Instr.sameNow (cA.td κ) (cA.kv k) e.key=some false:=by rw[h1,cA.same];simp;exact fun h=>hq h.symm
   cases hm:bC l k with
   |none=>
    rw[hm]at ih;simp only at ih⊢;simp[Instr.findNow,hne,ih]
   |some a=>
    rw[hm]at ih;simp only at ih⊢;obtain⟨j,i1,i2,i3⟩:=ih;refine⟨j+1,?_,by simpa using i2,fun a'=>?_⟩
    ·simp[Instr.findNow,hne,i1];omega
    ·rw[List.modify_succ_cons,List.map_cons,i3 a'];simp[iL,hq,h1,h2]
theorem oW(k:κ)(a:α):∀l:List (κ×α),bC l k=none→iL l k a=l ++[(k,a)]
 |[],_=>rfl
 |(q,b)::r,h=>by
  unfold bC at h
  by_cases hq:q=k
  ·rw[if_pos hq]at h;cases h
  ·rw[if_neg hq]at h;simp[iL,hq,oW k a r h]
end
section
variable{κ:Type} [dκ:DecidableEq κ] [iκ:cA κ]{α:Type}
structure lC(es:Array MapEntry)(clock:Nat):Prop where
 lt:∀e∈es.toList,e.born<clock
 nd:(es.toList.map (·.born)).Nodup
theorem lC.nil:lC #[] 0:=⟨fun e h=>by simp at h,by simp⟩
theorem lC.push{es:Array MapEntry}{clock:Nat}(h:lC es clock)(k v:Value):lC (es.push {key:=k,val:=v,born:=clock}) (clock+1):=by
 refine⟨fun e he=>?_,?_⟩
 ·simp only[Array.toList_push,List.mem_append,List.mem_singleton]at he;rcases he with he|rfl
  ·have:=h.lt e he;omega
  ·exact Nat.lt_succ_self _
 ·simp only[Array.toList_push,List.map_append,List.map_cons,List.map_nil];refine List.nodup_append.2 ⟨h.nd,by simp,fun a ha b hb=>?_⟩;obtain⟨e,he,rfl⟩:=List.mem_map.1 ha;have:=h.lt e he;rw[List.mem_singleton.1 hb];omega
theorem lC.modify{es:Array MapEntry}{clock:Nat}(h:lC es clock)(j:Nat)(k v:Value):lC (es.modify j fun e=>{e with key:=k,val:=v}) clock:=by
 have e:(es.modify j fun e=>{e with key:=k,val:=v}).toList.map (·.born)=es.toList.map (·.born):=by
  rw[Array.toList_modify];refine List.ext_getElem (by simp) fun i h1 h2=>?_
  simp only[List.getElem_map,List.getElem_modify]
  split<;>rfl
 refine⟨fun x hx=>?_,by rw[e];exact h.nd⟩;have:x.born∈es.toList.map (·.born):=by rw[←e];exact List.mem_map_of_mem hx
 obtain⟨y,hy,hxy⟩:=List.mem_map.1 this;rw[←hxy];exact h.lt y hy
@[irreducible] def mp (b : Nat) (g : α → Value) (l : List (κ × α)) : Chunk where
 holds w:=∃es clock,w.heap[b]?=some (.map es clock)∧es.toList.map (fun e=>(e.key,e.val))=l.map (fun p=>(cA.kv p.1,g p.2))∧lC es clock
 cO k:=k=b
 bB:=true
 kY k hs h:=by
  obtain⟨es,clock,h1,h2⟩:=h;exact⟨es,clock,k.at h1 (hs _ rfl),h2⟩
 lt h k hk:=by
  obtain⟨es,clock,h1,h2⟩:=h;subst hk;exact(Array.getElem?_eq_some_iff.1 h1).1
variable{b:Nat}{g:α→Value}{l:List (κ×α)}{w:World}
theorem tA:(mp b g l).holds w↔∃es clock,w.heap[b]?=some (.map es clock)∧es.toList.map (fun e=>(e.key,e.val))=l.map (fun p=>(cA.kv p.1,g p.2))∧lC es clock:=by unfold mp;exact Iff.rfl
theorem w7{k:Nat}:(mp b g l).cO k↔k=b:=by unfold mp;exact Iff.rfl
theorem j6:(mp b g l).bB=true:=by unfold mp;rfl
theorem run_findKey{P:Program}{kt:TypeId}(hk:P.underlying kt=some (cA.td κ))(k:κ)(es:List MapEntry)(r)(h:Instr.findNow (cA.td κ) (cA.kv k) es 0=some r)(w:World):(Instr.findKey kt (cA.kv k) es).run P w= .ok r w:=by
 unfold Instr.findKey;simp[run_underlying hk,h]
variable{P:Program} [eP P]{Q:Exit→Act→World→Prop}{N:Nd}{E:Env}{L L':List Chunk}
variable{dst:Option Tmp}{ty:TypeId}{pos:String}{aft:Array Edge}{gu:Option (Nat×Bool)}
variable{t kt et s1 b1 s2 b2:Nat}{z1 z2:List Value}
theorem aA.oV{C:Env→List Chunk→Prop}(g:α→Value)(hd:cF N dst=true)
  (k:∀b,C (cD dst (.map (some b)) E) (mp b g ([]:List (κ×α))::L)):aA P Q N ⟨dst, .makeMap t none,ty,pos,aft,gu⟩ E L C:=fun K hK A w hS hM=>by
 have hr:(execOp A.eval ⟨dst, .makeMap t none,ty,pos,aft,gu⟩).run P w= .ok (.value (.map (some w.heap.size))) (w.alloc (.map #[] 0)):=by
  simp only[execOp,Sem.run_bind,Option.map_none,RowKit.run_makeMap];rfl
 unfold Oper.wp;rw[hr];refine hK _ _ (k w.heap.size) _ _ (hS.put _ hd) (hM.add ((bV.refl _ _).alloc _) (tA.2 ⟨#[],0,?_,rfl, .nil⟩) (fun b hb=>by rw[w7.1 hb];exact Nat.le_refl _));exact heap_alloc_new w _
theorem aA.makeMap{C:Env→List Chunk→Prop}(g:α→Value)(hd:cF N dst=true)(k:∀b,C (cD dst (.map (some b)) E) (mp b g ([]:List (Int×α))::L)):aA P Q N ⟨dst, .makeMap t none,ty,pos,aft,gu⟩ E L C:=aA.oV g hd k
theorem U9{ok:Bool}{k:κ}(ht:aW P t=some ⟨.map kt et,s1,b1,z1⟩)(hkt:aW P kt=some ⟨cA.kd κ,s2,b2,z2⟩)(z:Value)(hz:(zeroValue et).run P w= .ok z w)(hm:(mp b g l).holds w):
  (Instr.lookup t (.map (some b)) (cA.kv k) ok).run P w= .ok (if ok then .tuple #[((bC l k).map g).getD z, .bool (bC l k).isSome]else((bC l k).map g).getD z) w:=by
 obtain⟨es,clock,h1,h2, -⟩:=tA.1 hm;have h3:=IP g k es.toList l 0 h2;have hu:=(b7 ht).map;have hk:=cA.AB (b7 hkt);unfold Instr.lookup
 cases hf:bC l k with
 |none=>
  rw[hf]at h3;simp only at h3;simp[run_underlying hu,MapKept.run_getObj_map h1,cA.x9 hk,run_findKey hk k _ _ h3,hz]
 |some a=>
  rw[hf]at h3;obtain⟨j,h3, -⟩:=h3;simp[run_underlying hu,MapKept.run_getObj_map h1,cA.x9 hk,run_findKey hk k _ _ h3]
variable{dκ}{iκ}
theorem Still.lookup{x y:Operand}{k:κ}{kv:Value}{kd:cV}{ok:Bool}{z:Value}(hx:ev E x=some (.map (some b)))(hy:ev E y=some kv)(ht:aW P t=some ⟨.map kt et,s1,b1,z1⟩)(hkt:aW P kt=some ⟨kd,s2,b2,z2⟩)
  (hz:(P.info? et).map (·.zero)=some (some z)) (hm:Take (mp b g l) L L') (hk:kv=cA.kv k∧kd=cA.kd κ):
  Still P N ⟨dst, .lookup t x y ok,ty,pos,aft,gu⟩ E L (if ok then .tuple #[((bC l k).map g).getD z, .bool (bC l k).isSome]else((bC l k).map g).getD z):=fun A w hS hM=>by
 obtain⟨rfl,rfl⟩:=hk;have hz':(zeroValue et).run P w= .ok z w:=by
  cases hi:P.info? et with
  |none=>rw[hi]at hz;cases hz
  |some i=>rw[hi]at hz;simp at hz;simp[zeroValue,typeInfo,hi,hz]
 simp only[execOp,hS.ev hx,hS.ev hy,Sem.run_bind,U9 ht hkt z hz' (hM.has hm),Result.andThen_ok,Sem.run_pure]
theorem Still.KR{x y:Operand}{k:κ}{kv:Value}{kd:cV}{z:Value}(hx:ev E x=some (.map (some b)))(hy:ev E y=some kv)(ht:aW P t=some ⟨.map kt et,s1,b1,z1⟩)(hkt:aW P kt=some ⟨kd,s2,b2,z2⟩)
  (hz:(P.info? et).map (·.zero)=some (some z)) (hm:Take (mp b g l) L L') (hk:kv=cA.kv k∧kd=cA.kd κ):
  Still P N ⟨dst, .lookup t x y true,ty,pos,aft,gu⟩ E L (.tuple #[((bC l k).map g).getD z, .bool (bC l k).isSome]):=Still.lookup (ok:=true) hx hy ht hkt hz hm hk
theorem Still.EO{x y:Operand}{k:κ}{kv:Value}{kd:cV}{z:Value}(hx:ev E x=some (.map (some b)))(hy:ev E y=some kv)(ht:aW P t=some ⟨.map kt et,s1,b1,z1⟩)(hkt:aW P kt=some ⟨kd,s2,b2,z2⟩)
  (hz:(P.info? et).map (·.zero)=some (some z)) (hm:Take (mp b g l) L L') (hk:kv=cA.kv k∧kd=cA.kd κ):
  Still P N ⟨dst, .lookup t x y false,ty,pos,aft,gu⟩ E L (((bC l k).map g).getD z):=Still.lookup (ok:=false) hx hy ht hkt hz hm hk
theorem Still.aC3{x y:Operand}{k:κ}{kv:Value}{kd:cV}{z:Value}(hx:ev E x=some (.map (some b)))(hy:ev E y=some kv)(ht:aW P t=some ⟨.map kt et,s1,b1,z1⟩)(hkt:aW P kt=some ⟨kd,s2,b2,z2⟩)
  (hz:(P.info? et).map (·.zero)=some (some z)) (hm:Take (mp b g l) L L') (hk:kv=cA.kv k∧kd=cA.kd κ) (hf:bC l k=none):Still P N ⟨dst, .lookup t x y true,ty,pos,aft,gu⟩ E L (.tuple #[z, .bool false]):=by
 have:=Still.KR (N:=N) (dst:=dst) (ty:=ty) (pos:=pos) (aft:=aft) (gu:=gu) hx hy ht hkt hz hm hk;rw[hf]at this;exact this
theorem Still.aC4{x y:Operand}{k:κ}{kv:Value}{kd:cV}{z:Value}{a:α}(hx:ev E x=some (.map (some b)))(hy:ev E y=some kv)(ht:aW P t=some ⟨.map kt et,s1,b1,z1⟩)(hkt:aW P kt=some ⟨kd,s2,b2,z2⟩)
  (hz:(P.info? et).map (·.zero)=some (some z)) (hm:Take (mp b g l) L L') (hk:kv=cA.kv k∧kd=cA.kd κ) (hf:bC l k=some a):Still P N ⟨dst, .lookup t x y true,ty,pos,aft,gu⟩ E L (.tuple #[g a, .bool true]):=by
 have:=Still.KR (N:=N) (dst:=dst) (ty:=ty) (pos:=pos) (aft:=aft) (gu:=gu) hx hy ht hkt hz hm hk;rw[hf]at this;exact this
theorem Still.aC0{x y:Operand}{k:κ}{kv:Value}{kd:cV}{z:Value}(hx:ev E x=some (.map (some b)))(hy:ev E y=some kv)(ht:aW P t=some ⟨.map kt et,s1,b1,z1⟩)(hkt:aW P kt=some ⟨kd,s2,b2,z2⟩)
  (hz:(P.info? et).map (·.zero)=some (some z)) (hm:Take (mp b g l) L L') (hk:kv=cA.kv k∧kd=cA.kd κ) (hf:bC l k=none):Still P N ⟨dst, .lookup t x y false,ty,pos,aft,gu⟩ E L z:=by
 have:=Still.EO (N:=N) (dst:=dst) (ty:=ty) (pos:=pos) (aft:=aft) (gu:=gu) hx hy ht hkt hz hm hk;rw[hf]at this;exact this
theorem Still.aC1{x y:Operand}{k:κ}{kv:Value}{kd:cV}{z:Value}{a:α}(hx:ev E x=some (.map (some b)))(hy:ev E y=some kv)(ht:aW P t=some ⟨.map kt et,s1,b1,z1⟩)(hkt:aW P kt=some ⟨kd,s2,b2,z2⟩)
  (hz:(P.info? et).map (·.zero)=some (some z)) (hm:Take (mp b g l) L L') (hk:kv=cA.kv k∧kd=cA.kd κ) (hf:bC l k=some a):Still P N ⟨dst, .lookup t x y false,ty,pos,aft,gu⟩ E L (g a):=by
 have:=Still.EO (N:=N) (dst:=dst) (ty:=ty) (pos:=pos) (aft:=aft) (gu:=gu) hx hy ht hkt hz hm hk;rw[hf]at this;exact this
theorem aA.mapUpdate{x y v:Operand}{key:κ}{kv:Value}{kd:cV}{a:α}{C:Env→List Chunk→Prop}(hx:ev E x=some (.map (some b)))(hy:ev E y=some kv)(hv:ev E v=some (g a))
  (ht:aW P t=some ⟨.map kt et,s1,b1,z1⟩) (hkt:aW P kt=some ⟨kd,s2,b2,z2⟩) (hm:Take (mp b g l) L L') (hk:kv=cA.kv key∧kd=cA.kd κ) (hd:cF N dst=true)
  (k:C (cD dst undef E) (mp b g (iL l key a)::L')):aA P Q N ⟨dst, .mapUpdate t x y v,ty,pos,aft,gu⟩ E L C:=fun K hK A w hS hM=>by
 obtain⟨rfl,rfl⟩:=hk;obtain⟨k',rfl⟩:∃k',k'=key:=⟨_,rfl⟩;obtain⟨es,clock,h1,h2,hb⟩:=tA.1 (hM.has hm);have h3:=IP g k' es.toList l 0 h2;have hu:=(b7 ht).map;have hk:=cA.AB (b7 hkt);have hlt:b<w.heap.size:=(Array.getElem?_eq_some_iff.1 h1).1;have key:∃es' clock',(Instr.mapUpdate t (.map (some b)) (cA.kv k') (g a)).run P w= .ok () {w with heap:=w.heap.setIfInBounds b (.map es' clock')}∧es'.toList.map (fun e=>(e.key,e.val))=(iL l k' a).map (fun p=>(cA.kv p.1,g p.2))∧lC es' clock':=by
  unfold Instr.mapUpdate
  cases hf:bC l k' with
  |none=>
   rw[hf]at h3;simp only at h3;refine⟨es.push {key:=cA.kv k',val:=g a,born:=clock},clock+1,?_,?_,hb.push _ _⟩
   ·simp[run_underlying hu,MapKept.run_getObj_map h1,cA.x9 hk,run_findKey hk k' _ _ h3,MapKept.run_setObj_map _ h1]
   ·rw[oW _ _ _ hf];simp[h2]
  |some a0=>
   rw[hf]at h3;obtain⟨j,h3,h4,h5⟩:=h3;have h4':(es[j]?).map (·.key)=some (cA.kv k'):=by simpa using h4
   refine⟨es.modify j fun e=>{e with key:=cA.kv k',val:=g a},clock,?_,?_,hb.modify _ _ _⟩
   ·have hst:=cA.stay (P:=P) k' w;simp[run_underlying hu,MapKept.run_getObj_map h1,cA.x9 hk,run_findKey hk k' _ _ h3,h4',hst,MapKept.run_setObj_map _ h1]
   ·rw[Array.toList_modify];exact h5 a
 obtain⟨es',clock',hrun,he⟩:=key;have hr:(execOp A.eval ⟨dst, .mapUpdate t x y v,ty,pos,aft,gu⟩).run P w= .ok .skip {w with heap:=w.heap.setIfInBounds b (.map es' clock')}:=by
  simp only[execOp,hS.ev hx,hS.ev hy,hS.ev hv,Sem.run_bind,hrun,Result.andThen_ok,Sem.run_pure]
 unfold Oper.wp;rw[hr];refine hK _ _ k _ _ (hS.put _ hd) ((hM.take hm).sA (S:=fun i=>i=b) ⟨rfl,rfl,rfl,by simp,fun i hi hs=>?_⟩ j6 (fun c hc _=>w7.2 hc) (tA.2 ⟨es',clock',?_,he⟩) (fun c hc=> .inl (w7.2 (w7.1 hc))))
 ·simp only[Array.getElem?_setIfInBounds];rw[if_neg (fun h=>hs h.symm)]
 ·simp only[Array.getElem?_setIfInBounds,if_pos hlt,if_true]
end
@[irreducible] def fE (P : Program) (y : Code) (Q : Exit → Act → World → Prop) : Exit → Act → World → Prop := Exit.then (y.wp P Q) Q
section
variable{P:Program}{y x:Code}{Q:Exit→Act→World→Prop}{N:Nd}{id:Nat}{E:Env}{L:List Chunk}
theorem aB.jQ(h:aB P (fE P y Q) N x E L):aB P Q N (.seq x y) E L:=fun a w hs hm=>wp_seq (by have:=h a w hs hm;unfold fE at this;exact this)
theorem End.jQ(h:aB P Q N y E L):End (fE P y Q) N .normal E L:=fun a w hs hm=>by unfold fE;exact h a w hs hm
theorem End.LK(h:End Q N (.exit id) E L):End (fE P y Q) N (.exit id) E L:=fun a w hs hm=>by unfold fE;exact h a w hs hm
theorem End.LL(h:End Q N .ret E L):End (fE P y Q) N .ret E L:=fun a w hs hm=>by unfold fE;exact h a w hs hm
theorem aO.pX(h:aO Q):aO (fE P y Q):=by unfold fE;exact h
theorem A8{c:Code}{σ:Type}(ok:σ→Prop)(inv:σ→Env)(mem:σ→List Chunk)
  (h2:∀s,ok s→aB P Q N y (inv s) (mem s)) (h1:∀K':Act→World→Prop,(∀s,ok s→∀a w,Sat N a (inv s)→Mem w (mem s)→K' a w)→aB P (Exit.inBlock id (Exit.then K' Q)) N c E L):aB P (Exit.inBlock id (fE P y Q)) N c E L:=by
 unfold fE;exact h1 _ (fun s hs a w ha hm=>h2 s hs a w ha hm)
theorem A9{c:Code}{σ:Type}(ok:σ→Prop)(inv:σ→Env)(mem:σ→List Chunk)
  (h2:∀s,ok s→aB P Q N y (inv s) (mem s)) (h1:∀K':Act→World→Prop,(∀s,ok s→∀a w,Sat N a (inv s)→Mem w (mem s)→K' a w)→aB P (Exit.then K' Q) N c E L):aB P (fE P y Q) N c E L:=by
 unfold fE;exact h1 _ (fun s hs a w ha hm=>h2 s hs a w ha hm)
end
section
variable{P:Program}{ops:Array Oper}{Q:Exit→Act→World→Prop}{N:Nd}{e:Nat}{LT:List Chunk}{E:Env}{L F:List Chunk}{fuel:Nat}{listed:Array Bool}
theorem RunT.two(i j:Nat){o o':Oper}(hr:Region.ready .any ops listed=[i,j])(ho:ops[i]?=some o)(hg:o.guard=none)(ho':ops[j]?=some o')(hg':o'.guard=none)
  (h:aA P Q N o E L (fun E' L'=>Good e LT (listed.setIfInBounds i true) L'∧RunT P ops Q N e LT fuel (listed.setIfInBounds i true) E' L'))
  (h':aA P Q N o' E L (fun E' L'=>Good e LT (listed.setIfInBounds j true) L'∧RunT P ops Q N e LT fuel (listed.setIfInBounds j true) E' L')):RunT P ops Q N e LT (fuel+1) listed E L:=
 fun a w hs hM=>by
  refine⟨fun h0=>(by rw[h0]at hr;cases hr),fun k hk=>?_⟩;rw[hr]at hk;have hk':k=i∨k=j:=by simpa using hk
  rcases hk' with rfl|rfl
  ·exact wpOp_step ho fun K' hK'=>by
    rw[if_pos (by simp[Region.wanted,hg])];exact h K' (fun E' L' hc a w hs hm=>hK' a w ⟨hc.1.imp id fun⟨F,t⟩=>(hm.aS t).left,hc.2 a w hs hm⟩) a w hs hM
  ·exact wpOp_step ho' fun K' hK'=>by
    rw[if_pos (by simp[Region.wanted,hg'])];exact h' K' (fun E' L' hc a w hs hm=>hK' a w ⟨hc.1.imp id fun⟨F,t⟩=>(hm.aS t).left,hc.2 a w hs hm⟩) a w hs hM
end
def MB(o:Oper):Bool:=match o.op with
 | .move _| .assign _| .pick .. | .load .. | .nilCheck _| .binOp .. | .unOp .. | .convert .. | .fieldAddr .. | .field .. | .indexAddr .. | .index .. | .lookup .. | .extract .. | .build .. | .makeFunc .. | .makeInterface .. =>true
 | .call ⟨.builtin .len,_,_⟩=>true
 |_=>false
def nH:List Oper→List Oper×List Oper
 |[]=>([],[])
 |o::r=>if MB o then(o::(nH r).1,(nH r).2)else([],o::r)
theorem MU:∀l:List Oper,(nH l).1=l.take (nH l).1.length∧(nH l).2=l.drop (nH l).1.length
 |[]=>⟨rfl,rfl⟩
 |o::r=>by
  unfold nH
  split
  ·obtain⟨h1,h2⟩:=MU r;exact⟨by simp only[List.length_cons,List.take_succ_cons];rw[←h1],by simp only[List.length_cons,List.drop_succ_cons];exact h2⟩
  ·exact⟨rfl,rfl⟩
theorem aB.aE2{P:Program}{Q:Exit→Act→World→Prop}{N:Nd}{id:Nat}{E:Env}{L:List Chunk}{l:List Oper}(hq:l.all MB=true)(hm:P.follows .mixedOrders=true)(hB:Region.lexB .any l.toArray=true)(h:aM P l.toArray Q N l E L):aB P Q N (.region id l.toArray true) E L:=aB.quiet hm hB h
def aP(P:Program)(ops:Array Oper)(rest:List Oper)(Q:Exit→Act→World→Prop)(N:Nd)(l:List Oper)(E:Env)(L:List Chunk):Prop:=
 ∀a w,Sat N a E→Mem w L→wpStill P ops w (fun a'=>wpList P ops Q rest a' w) l a
section
variable{P:Program}{ops:Array Oper}{rest:List Oper}{Q:Exit→Act→World→Prop}{N:Nd}{E:Env}{L:List Chunk}
theorem aB.tail{id:Nat}{l:List Oper}(hne:(nH l).2.isEmpty=false)(hm:P.follows .mixedOrders=true)(hB:Region.lexTailB .any l.toArray (nH l).1.length=true)(h:aP P l.toArray (nH l).2 Q N (nH l).1 E L):aB P Q N (.region id l.toArray true) E L:=fun a w hs hM=>by
 refine wp_region_still_tail _ hm hB ?_;have:=h a w.drew hs hM.drew;rw[(MU l).1,(MU l).2]at this;exact this
theorem aP.nil(h:aE P ops Q N rest E L):aP P ops rest Q N [] E L:=fun a w hs hM=>wpStill_nil (h a w hs hM)
theorem V6{o:Oper}{a:Act}{w:World}{v:Value}{K:Act→Prop}(h:(execOp a.eval o).run P w= .ok (.value v) w)(hn:K (a.put o.dst v)):o.still P a w K:=by
 unfold Oper.still;rw[h,Oper.stillUpon_value];exact hn
theorem aP.val{d:Tmp}{op:Op}{ty:TypeId}{pos:String}{aft:Array Edge}{l:List Oper}{v:Value}(h:Still P N ⟨some d,op,ty,pos,aft,none⟩ E L v)(hd:Nat.blt d N.n=true)(k:aP P ops rest Q N l ((d,v)::E) L):aP P ops rest Q N (⟨some d,op,ty,pos,aft,none⟩::l) E L:=by
 intro a w hs hM;refine wpStill_step fun K hK=>?_
 rw[if_pos (by simp[Region.wanted])];exact V6 (h a w hs hM) (hK _ (k _ w (hs.put (dst:=some d) v hd) hM))
theorem aP.yes{d:Tmp}{op:Op}{ty:TypeId}{pos:String}{aft:Array Edge}{l:List Oper}{v:Value}{j:Nat}{want:Bool}(hgd:gd ops E j=some (.bool want))(h:Still P N ⟨some d,op,ty,pos,aft,some (j,want)⟩ E L v)(hd:Nat.blt d N.n=true)(k:aP P ops rest Q N l ((d,v)::E) L):aP P ops rest Q N (⟨some d,op,ty,pos,aft,some (j,want)⟩::l) E L:=by
 intro a w hs hM;refine wpStill_step fun K hK=>?_
 rw[tQ hs rfl hgd,if_pos (by simp)];exact V6 (h a w hs hM) (hK _ (k _ w (hs.put (dst:=some d) v hd) hM))
theorem aP.no{d:Tmp}{op:Op}{ty:TypeId}{pos:String}{aft:Array Edge}{l:List Oper}{j:Nat}{want t:Bool}(hgd:gd ops E j=some (.bool t))(hne:(t==want)=false)(hd:Nat.blt d N.n=true)(k:aP P ops rest Q N l ((d,Go.undef)::E) L):aP P ops rest Q N (⟨some d,op,ty,pos,aft,some (j,want)⟩::l) E L:=by
 intro a w hs hM;refine wpStill_step fun K hK=>?_
 rw[tQ hs rfl hgd,hne];exact hK _ (k _ w (hs.put (dst:=some d) Go.undef hd) hM)
variable{d0 d:Tmp}{op:Op}{ty:TypeId}{pos:String}{aft:Array Edge}{l:List Oper}{j:Nat}{want t:Bool}
theorem aP.BP(hj:slot ops j=some d)(hl:look E d=some (.bool t))(ht:t=true)(k:aP P ops rest Q N (⟨some d0,op,ty,pos,aft,some (j,want)⟩::l) ((d, .bool true)::E) L):aP P ops rest Q N (⟨some d0,op,ty,pos,aft,some (j,want)⟩::l) E L:=
 fun a w hs hM=>k a w (hs.o5 (ht▸hl)) hM
theorem aP.BO(hj:slot ops j=some d)(hl:look E d=some (.bool t))(ht:t=false)(k:aP P ops rest Q N (⟨some d0,op,ty,pos,aft,some (j,want)⟩::l) ((d, .bool false)::E) L):aP P ops rest Q N (⟨some d0,op,ty,pos,aft,some (j,want)⟩::l) E L:=
 fun a w hs hM=>k a w (hs.o5 (ht▸hl)) hM
end
section
variable{P:Program} [eP P]{Q:Exit→Act→World→Prop}{N:Nd}{E:Env}{L L':List Chunk}
variable{dst:Option Tmp}{ty:TypeId}{pos:String}{aft:Array Edge}{g:Option (Nat×Bool)}
theorem Still.aAi{xT yT e:TypeId}{x y:Operand}{ao:Option Addr}{n c n' c' s' b':Nat}{z':List Value}(hx:ev E x=some (.slice ao n c))(hy:ev E y=some (.slice none n' c'))(ht:aW P xT=some ⟨.slice e,s',b',z'⟩):
  Still P N ⟨dst, .binOp .eql xT x y yT,ty,pos,aft,g⟩ E L (.bool ao.isNone):=fun A w hs _=>by
 have:=Lib.run_eql_slice_nil (P:=P) w xT e ao n c n' c' (b7 ht).slice;simp[execOp,hs.ev hx,hs.ev hy,eqGuard,this]
theorem U7{P:Program}{t e:TypeId}(h:P.underlying t=some (.pointer e))(d:Nat)(a:Option Addr)(w:World):(Op.equalIn (d+1) t (.pointer a) (.pointer none)).run P w= .ok a.isNone w:=by
 cases a<;>simp[Op.equalIn,run_underlying h]
theorem aEy{P:Program}{t e:TypeId}(h:P.underlying t=some (.pointer e))(a:Option Addr)(w:World):(binOp .neq t (.pointer a) (.pointer none)).run P w= .ok (.bool a.isSome) w:=by
 simp only[binOp]
 cases a<;>simp[Op.equal,Op.maxDepth,U7 h 9999]
theorem aEx{P:Program}{t e:TypeId}(h:P.underlying t=some (.pointer e))(a:Option Addr)(w:World):(binOp .eql t (.pointer a) (.pointer none)).run P w= .ok (.bool a.isNone) w:=by
 simp only[binOp];simp[Op.equal,Op.maxDepth,U7 h 9999]
theorem Still.aDP{xT yT e:TypeId}{x y:Operand}{a:Option Addr}{s' b':Nat}{z':List Value}(hx:ev E x=some (.pointer a))(hy:ev E y=some (.pointer none))(ht:aW P xT=some ⟨.pointer e,s',b',z'⟩):
  Still P N ⟨dst, .binOp .neq xT x y yT,ty,pos,aft,g⟩ E L (.bool a.isSome):=fun A w hs _=>by
 simp[execOp,hs.ev hx,hs.ev hy,eqGuard,aEy (b7 ht).pointer]
theorem Still.aAl{xT yT e:TypeId}{x y:Operand}{a:Option Addr}{s' b':Nat}{z':List Value}(hx:ev E x=some (.pointer a))(hy:ev E y=some (.pointer none))(ht:aW P xT=some ⟨.pointer e,s',b',z'⟩):
  Still P N ⟨dst, .binOp .eql xT x y yT,ty,pos,aft,g⟩ E L (.bool a.isNone):=fun A w hs _=>by
 simp[execOp,hs.ev hx,hs.ev hy,eqGuard,aEx (b7 ht).pointer]
def D2(P:Program)(t:TypeId):Bool:=match P.underlying t with
 |some (.func ..)=>true
 |_=>false
theorem U6{t:TypeId}(h:D2 P t=true)(d:Nat)(v:Value)(hv:v= .nilFunc∨∃fn a b,v= .func fn a b)(w:World):(Op.equalIn (d+1) t v .nilFunc).run P w= .ok (v matches .nilFunc) w:=by
 unfold D2 at h
 cases hu:P.underlying t with
 |none=>rw[hu]at h;cases h
 |some u=>
  rw[hu]at h
  cases u<;>simp at h
  rcases hv with rfl|⟨fn,a,b,rfl⟩<;>simp[Op.equalIn,run_underlying hu]
theorem Still.aDL{xT yT:TypeId}{x y:Operand}{fn:Go.Fn}{a b:Array Value}(hx:ev E x=some (.func fn a b))(hy:ev E y=some .nilFunc)(ht:D2 P xT=true):
  Still P N ⟨dst, .binOp .neq xT x y yT,ty,pos,aft,g⟩ E L (.bool true):=fun A w hs _=>by
 have:=U6 ht 9999 (.func fn a b) (.inr ⟨_,_,_,rfl⟩) w;simp only[execOp,hs.ev hx,hs.ev hy,eqGuard,binOp,Op.equal,Op.maxDepth];simp[this]
theorem Still.aDM{xT yT:TypeId}{x y:Operand}(hx:ev E x=some .nilFunc)(hy:ev E y=some .nilFunc)(ht:D2 P xT=true):
  Still P N ⟨dst, .binOp .neq xT x y yT,ty,pos,aft,g⟩ E L (.bool false):=fun A w hs _=>by
 have:=U6 ht 9999 .nilFunc (.inl rfl) w;simp only[execOp,hs.ev hx,hs.ev hy,eqGuard,binOp,Op.equal,Op.maxDepth];simp[this]
def IQ(P:Program)(t:TypeId):Bool:=match P.underlying t with
 |some (.func ..)=>true
 |some (.interface _)=>true
 |_=>false
theorem aBu{t:TypeId}(h:IQ P t=true)(w:World):(Go.isAgg t).run P w= .ok false w:=by
 unfold IQ at h
 cases hu:P.underlying t with
 |none=>rw[hu]at h;cases h
 |some u=>
  rw[hu]at h;unfold Go.isAgg;rw[Sem.run_bind,run_underlying hu w]
  cases u<;>simp at h<;>simp
theorem Still.KN{x:Operand}{t bt:TypeId}{b i:Nat}{cs:List Value}{v:Value}{L':List Chunk}(hx:ev E x=some (.pointer (some ⟨b,i,none⟩)))(ht:IQ P t=true)
  (hm:Take (aD b cs bt) L L') (hv:cs[i]?=some v):Still P N ⟨dst, .load t x,ty,pos,aft,g⟩ E L v:=fun A w hs hM=>by
 have hb:=jU.1 (hM.has hm);have hc:w.cell? ⟨b,i,none⟩=some v:=by rw[hb.cell];simpa using hv
 simp[execOp,hs.ev hx,Instr.loadAt,Instr.sureAddr,loadVar,aBu ht,load,hc]
theorem Still.makeFunc{fn:Go.Fn}{first captured:List Operand}{vs us:List Value}(h1:fX E first vs)(h2:fX E captured us):
  Still P N ⟨dst, .makeFunc fn first.toArray captured.toArray,ty,pos,aft,g⟩ E L (.func fn vs.toArray us.toArray):=fun A w hs _=>by
 have e1:first.toArray.map A.eval=vs.toArray:=by rw[←hs.mZ h1];simp
 have e2:captured.toArray.map A.eval=us.toArray:=by rw[←hs.mZ h2];simp
 simp only[execOp,Instr.makeFunc,e1,e2,Sem.run_bind,Sem.run_pure,Result.andThen_ok]
end
theorem aQ.all(L:List Chunk):aQ L L []:=by
 induction L with
 |nil=>exact .nil
 |cons c r ih=>exact .cons .head ih
theorem aQ.skip{c:Chunk}{cs L F:List Chunk}(h:aQ cs L F):aQ cs (c::L) (c::F):=by
 induction h generalizing c with
 |nil=>exact .nil
 |cons h1 _ ih=>exact .cons (.tail h1) ih
theorem Take.LM{c:Chunk}:∀{L:List Chunk},c∈L→∃L',Take c L L'
 |d::L,h=>by
  rcases List.mem_cons.1 h with rfl|h
  ·exact⟨L, .head⟩
  ·obtain⟨L',t⟩:=Take.LM h;exact⟨d::L', .tail t⟩
theorem aQ.S4:∀{cs L F:List Chunk},L.Perm (cs ++F)→∃F',aQ cs L F'∧F'.Perm F
 |[],L,F,p=>⟨L, .nil,p⟩
 |c::cs,L,F,p=>by
  obtain⟨L',t⟩:=Take.LM (p.mem_iff.2 (by simp:c∈c::cs ++F));have p2:L'.Perm (cs ++F):=List.Perm.cons_inv (t.perm.symm.trans p);obtain⟨F',t2,p3⟩:=aQ.S4 p2;exact⟨F', .cons t t2,p3⟩
theorem aQ.back{a b c:Chunk}{pre:List Chunk}:aQ (a::b::c::pre) (pre ++[a,b,c]) []:=by
 obtain⟨F',t,p⟩:=aQ.S4 (cs:=a::b::c::pre) (L:=pre ++[a,b,c]) (F:=[]) (by simpa using List.perm_append_comm (l₁:=pre) (l₂:=[a,b,c]));rwa [List.Perm.eq_nil p]at t
theorem aQ.x6{a b c:Chunk}{pre:List Chunk}:aQ (a::pre) (pre ++[a,b,c]) [b,c]:=by
 have h:∀pre:List Chunk,aQ pre (pre ++[b,c]) [b,c]:=by
  intro pre
  induction pre with
  |nil=>exact .nil
  |cons d r ih=>exact .cons .head ih
 have t:Take a (pre ++[a,b,c]) (pre ++[b,c]):=by
  induction pre with
  |nil=>exact .head
  |cons d r ih=>exact .tail ih
 exact .cons t (h pre)
theorem Reads.any{w:World}{r:Chunk}{R F F':List Chunk}(t:Take r F F')(hx:r.bB=false)(h:Reads w R F):Reads w (r::R) F:= .cons t hx (fun h=>⟨h,fun _ hb=>hb⟩) h
theorem Reads.aD{w:World}{α:Type}{iα:Inhabited α}{f:α→List Value}{ef:bF f}{b n:Nat}{cs:List Value}{e:TypeId}{l:List α}{R F F':List Chunk}(t:Take (Proofs.YtofckcabpchcmaaGreatDoor.aD b cs e) F F')(hc:cs=l.flatMap f)(hn:l.length=n)(hm:n≤9223372036854775807)(h:Reads w R F):
  Reads w (Proofs.YtofckcabpchcmaaGreatDoor.rd (some ⟨b,0,none⟩) n n f l::R) F:= .cons t fP (fun h=>⟨kA.2 ⟨by
   have:=Row.aD7 (size:=sz f) (n:=n) (jU.1 h) (by rw[hc,List.size_toArray,sY,hn]) hm;rwa [←hc],hn⟩,fun b' hb=>rM.2 (by have:=(j9.1 hb).1;simp[Value.ownBlock]at this;exact this.symm)⟩) h
theorem Take.ZD{b:Nat}{cs cs':List Value}{t:TypeId}{L:List Chunk}(h:cs=cs'):Take (aD b cs t) (aD b cs' t::L) L:=h▸ .head
theorem Take.Y1{α:Type}{iα:Inhabited α}{ao:Option Addr}{n n' cap:Nat}{e:TypeId}{f:α→List Value}{ef:bF f}{l l':List α}{L:List Chunk}(h:n=n')(h2:l=l'):Take (arr ao n cap e f l) (arr ao n' cap e f l'::L) L:=by subst h h2;exact .head
section
variable{σ:Type}
theorem Mem.nO{w:World}{cs ds es L L':List Chunk}(h:Mem w L)(t:Take (aR cs) L L')(p:cs.Perm (ds ++es)):Mem w (ds ++(aR es::L')):=by
 have hb:=pP.1 (h.has t);have h1:Mem w (cs ++L'):=(h.take t).unpack;have h2:Mem w (es ++(ds ++L')):=h1.perm ((List.Perm.append_right _ (p.trans List.perm_append_comm)).trans (by rw[List.append_assoc]));have h3:=h2.pack (fun c hc=>hb.2 c (p.mem_iff.2 (by simp[hc])));exact h3.perm (List.perm_middle.symm)
theorem Mem.mA{w:World}{cs ds es L L' F:List Chunk}(h:Mem w L)(t:Take (aR es) L L')(t2:aQ ds L' F)(p:cs.Perm (ds ++es))(hx:∀c∈ds,c.bB=true):Mem w (aR cs::F):=by
 have hb:=pP.1 (h.has t);have h1:Mem w (es ++L'):=(h.take t).unpack;have h2:Mem w (es ++(ds ++F)):=h1.perm (List.Perm.append_left _ t2.perm);have h3:Mem w (cs ++F):=by
  refine h2.perm ?_;rw[←List.append_assoc];exact List.Perm.append_right _ (List.perm_append_comm.trans p.symm)
 exact h3.pack (fun c hc=>by
  rcases List.mem_append.1 (p.mem_iff.1 hc)with h|h
  ·exact hx c h
  ·exact hb.2 c h)
theorem Reads.aR{w:World}{α:Type}{iα:Inhabited α}{ao:Option Addr}{n cap:Nat}{e:TypeId}{f:α→List Value}{ef:bF f}{l:List α}{cs R F F':List Chunk}(t:Take (Proofs.YtofckcabpchcmaaGreatDoor.aR cs) F F')(hm:Proofs.YtofckcabpchcmaaGreatDoor.arr ao n cap e f l∈cs)(h:Reads w R F):
  Reads w (Proofs.YtofckcabpchcmaaGreatDoor.rd ao n cap f l::R) F:= .cons t fP (fun hb=>by
   have ha:=fH.1 ((pP.1 hb).1.all _ hm);exact⟨kA.2 ⟨ha.1.row bF.pos,ha.2⟩,fun b hb=>wI.2 ⟨_,hm,fS.2 ⟨(j9.1 hb).1,Nat.lt_of_lt_of_le (j9.1 hb).2 ha.1.le⟩⟩⟩) h
theorem aDA{α:Type}{b:Nat}{g:α→Value}{l l':List (Int×α)}{w:World}{L L':List Chunk}(h:Mem w L)(t:Take (mp b g l) L L')(e:l.map (fun p=>(Value.int .i64 p.1,g p.2))=l'.map (fun p=>(Value.int .i64 p.1,g p.2))):Mem w (mp b g l'::L'):=by
 obtain⟨es,clock,h1,h2,h3⟩:=tA.1 (h.has t);exact(h.take t).sA (S:=Nil) (bV.refl _ _) j6 (fun _ h _=>h.elim) (tA.2 ⟨es,clock,h1,h2.trans e,h3⟩) (fun c hc=> .inl (w7.2 (w7.1 hc)))
end
end
namespace ImgM
structure aY where
 op:Int
 a:Int
 n:Int
structure bS where
 kind:Int
 params:Int
 locals:List Int
 result:Int
 aS:Int
 code:List aY
structure aG where
 boxes:List (Int×Int)
 aL:List bS
def zig(n:Int):Nat:=if n<0 then(-2*n-1).toNat else(2*n).toNat
def bG(n:Int):Prop:= -9223372036854775808≤n∧n≤9223372036854775807
def RT(x:Nat):List Nat:=if x<128 then [x]else(x % 128+128)::RT (x/128)
termination_by x
decreasing_by omega
def num(n:Int):List Nat:=RT (zig n)
def S2(l:List Int):List Nat:=l.flatMap num
def aBr(i:aY):List Int:=[i.op,i.a,i.n]
def DQ(l:List aY):List Int:=l.flatMap aBr
def aHN(u:bS):List Int:=[u.kind,u.params] ++((u.locals.length:Int)::u.locals) ++[u.result,u.aS,(u.code.length:Int)] ++DQ u.code
def ZI(b:Int×Int):List Int:=[b.1,b.2]
def R7(m:aG):List Int:=(m.boxes.length:Int)::m.boxes.flatMap ZI ++(m.aL.length:Int)::m.aL.flatMap aHN
def body(m:aG):List Nat:=S2 (R7 m)
instance:Inhabited aY:=⟨⟨0,0,0⟩⟩
instance:Inhabited bS:=⟨⟨0,0,[],0,0,[]⟩⟩
def ZC(y:BitVec 16):BitVec 16:=if y.toNat/32768=1 then(y<<<1)^^^4129#16 else y<<<1
def OT:Nat→BitVec 16→BitVec 16
 |0,x=>x
 |n+1,x=>ZC (OT n x)
def ZU(x:BitVec 16)(c:Nat):BitVec 16:=OT 8 (x^^^BitVec.ofNat 16 (c*256))
def aAO(x:BitVec 16)(l:List Nat):BitVec 16:=l.foldl ZU x
def PT(l:List Nat):Nat:=(aAO 65535#16 l).toNat
def bytes(m:aG):List Nat:=body m ++[PT (body m)/256,PT (body m) % 256]
end ImgM
namespace Img
open Go.RowKit
def dV(i:ImgM.aY):List Value:=[.int .i64 i.op, .int .i64 i.a, .int .i64 i.n]
def mV(b:Int×Int):List Value:=[.int .i64 b.1, .int .i64 b.2]
structure Wf(M:ImgM.aG):Prop where
 S2:∀n∈ImgM.R7 M,ImgM.bG n
end Img
end Go.Proofs.YtofckcabpchcmaaGreatDoor
