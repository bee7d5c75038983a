/- A region that draws its order, over states that are said by lists: what only yields a value is taken first. Of whatever program. -/
import Derived.Test.YtofckcabpchcmaaGreatDoorM03
import Derived.Deep.Quiet
import Derived.Carry
set_option linter.unusedVariables false
set_option linter.unusedSimpArgs false
set_option linter.unusedSectionVars false
set_option maxRecDepth 100000
namespace Go.Proofs.YtofckcabpchcmaaGreatDoor
section
open Go
section
variable(P:Program)(ops:Array Oper)(Q:Exit→Act→World→Prop)(N:Nd)(e:Nat)(LT:List Chunk)
def RunT(fuel:Nat)(listed:Array Bool)(E:Env)(L:List Chunk):Prop:=∀a w,Sat N a E→Mem w L→p9 P .any ops Q e (fun w=>Mem w LT) fuel listed a w
def aS:Prop:=∀c a w d v,Q (.panic c) (Act.put a d v) w→Q (.panic c) a w
def Good(listed:Array Bool)(L:List Chunk):Prop:=listed.getD e false=true∨∃F,aR LT L F
end
section
variable{P:Program}{ops:Array Oper}{Q:Exit→Act→World→Prop}{N:Nd}{e:Nat}{LT:List Chunk}{E:Env}{L F:List Chunk}{fuel:Nat}{listed:Array Bool}
theorem aG.draw{id:Nat}{l:List Oper}(e:Nat)(LT:List Chunk)(hm:P.follows .mixedOrders=true)(n:Nat)(hn:l.length=n)(h:RunT P l.toArray Q N e LT n (Array.replicate n false) E L):aG P Q N (.region id l.toArray true) E L:=
 fun a w hs hM=>aFK e (fun w=>Mem w LT) hm (by subst hn;exact h a w.drew hs hM.drew)
theorem RunT.aHN(i:Nat){d:Tmp}{op:Op}{ty:TypeId}{pos:String}{aft:Array Edge}{v:Value}(hi:ops[i]?=some ⟨some d,op,ty,pos,aft,none⟩)(hns:Region.noSelect ops=true)(hf:Region.free .any ops listed i=true)(hr:(Region.ready .any ops listed).contains i=true)(hie:Nat.beq i e=false)
  (hQ:aS Q) (hd:Nat.blt d N.n=true) (hy:Still P N ⟨some d,op,ty,pos,aft,none⟩ E [] v) (ht:Good e LT listed L) (h:RunT P ops Q N e LT fuel (listed.setIfInBounds i true) ((d,v)::E) L):RunT P ops Q N e LT (fuel+1) listed E L:=
 fun a w hs hM=>ZJ hi (Region.noSelect_spec hns) (fun c a w hq=>hQ c a w _ _ hq) fuel listed a w (Region.free_spec hi hf) (by simpa using hr) (fun h=>by subst h;simp at hie)
  (.inl ⟨by simp[Region.wanted],fun w' _=>hy a w' hs (Mem.nil w')⟩) (ht.imp id fun⟨F,t⟩=>(hM.aP t).left) (h _ w (hs.put (dst:=some d) v hd) hM)
theorem RunT.aHQ(i:Nat){d:Tmp}{op:Op}{ty:TypeId}{pos:String}{aft:Array Edge}{v:Value}(hi:ops[i]?=some ⟨some d,op,ty,pos,aft,none⟩)(hns:Region.noSelect ops=true)(hf:Region.free .any ops listed i=true)(hr:(Region.ready .any ops listed).contains i=true)(hcl:vG .any ops listed=true)(hw:p8 .any ops i ops.size e=true)
  (hQ:aS Q) (hd:Nat.blt d N.n=true) (ht:aR LT L F) (hy:Still P N ⟨some d,op,ty,pos,aft,none⟩ E LT v) (h:RunT P ops Q N e LT fuel (listed.setIfInBounds i true) ((d,v)::E) L):RunT P ops Q N e LT (fuel+1) listed E L:=
 fun a w hs hM=>ZL hi (Region.noSelect_spec hns) (fun c a w hq=>hQ c a w _ _ hq) hw fuel listed a w (QV hcl) (Region.free_spec hi hf) (by simpa using hr)
  (.inl ⟨by simp[Region.wanted],fun w' hw'=>hy a w' hs hw'⟩) (hM.aP ht).left (h _ w (hs.put (dst:=some d) v hd) hM)
theorem RunT.takeN(i:Nat){d:Tmp}{op:Op}{ty:TypeId}{pos:String}{aft:Array Edge}{v:Value}(hi:ops[i]?=some ⟨some d,op,ty,pos,aft,none⟩)(hns:Region.noSelect ops=true)(hf:Region.free .any ops listed i=true)(hr:(Region.ready .any ops listed).contains i=true)(he:Nat.ble ops.size e=true)(hsz:Nat.beq listed.size ops.size=true)
  (hQ:aS Q) (hd:Nat.blt d N.n=true) (ht:aR LT L F) (hy:Still P N ⟨some d,op,ty,pos,aft,none⟩ E LT v) (h:RunT P ops Q N e LT fuel (listed.setIfInBounds i true) ((d,v)::E) L):RunT P ops Q N e LT (fuel+1) listed E L:=
 fun a w hs hM=>ZK hi (Region.noSelect_spec hns) (fun c a w hq=>hQ c a w _ _ hq) (Nat.le_of_ble_eq_true he) fuel listed a w (Nat.eq_of_beq_eq_true hsz) (Region.free_spec hi hf) (by simpa using hr)
  (.inl ⟨by simp[Region.wanted],fun w' hw'=>hy a w' hs hw'⟩) (hM.aP ht).left (h _ w (hs.put (dst:=some d) v hd) hM)
theorem RunT.aHP(i:Nat){oi:Oper}{v:Value}{j:Nat}{want:Bool}(hi:ops[i]?=some oi)(hns:Region.noSelect ops=true)(hf:Region.free .any ops listed i=true)(hr:(Region.ready .any ops listed).contains i=true)(he:Nat.ble ops.size e=true)(hsz:Nat.beq listed.size ops.size=true)
  (hQ:aS Q) (hg:oi.guard=some (j,want)) (hgd:gd ops E j=some (.bool want)) (hd:cR N oi.dst=true) (ht:aR LT L F) (hy:Still P N oi E LT v) (h:RunT P ops Q N e LT fuel (listed.setIfInBounds i true) (cP oi.dst v E) L):RunT P ops Q N e LT (fuel+1) listed E L:=
 fun a w hs hM=>ZK hi (Region.noSelect_spec hns) (fun c a w hq=>hQ c a w _ _ hq) (Nat.le_of_ble_eq_true he) fuel listed a w (Nat.eq_of_beq_eq_true hsz) (Region.free_spec hi hf) (by simpa using hr)
  (.inl ⟨by rw[uT hs hg hgd];simp,fun w' hw'=>hy a w' hs hw'⟩) (hM.aP ht).left (h _ w (hs.put v hd) hM)
theorem RunT.aHR(i:Nat){oi:Oper}{j:Nat}{want t:Bool}(hi:ops[i]?=some oi)(hns:Region.noSelect ops=true)(hf:Region.free .any ops listed i=true)(hr:(Region.ready .any ops listed).contains i=true)(hie:Nat.beq i e=false)
  (hQ:aS Q) (hg:oi.guard=some (j,want)) (hgd:gd ops E j=some (.bool t)) (hne:(t==want)=false) (hd:cR N oi.dst=true) (ht:Good e LT listed L) (h:RunT P ops Q N e LT fuel (listed.setIfInBounds i true) (cP oi.dst undef E) L):RunT P ops Q N e LT (fuel+1) listed E L:=
 fun a w hs hM=>ZJ hi (Region.noSelect_spec hns) (fun c a w hq=>hQ c a w _ _ hq) fuel listed a w (Region.free_spec hi hf) (by simpa using hr) (fun h=>by subst h;simp at hie)
  (.inr ⟨by rw[uT hs hg hgd];exact hne,rfl⟩) (ht.imp id fun⟨F,t⟩=>(hM.aP t).left) (h _ w (hs.put undef hd) hM)
theorem RunT.part{d:Nat}(t:Bool)(hl:look E d=some (.bool t))(h1:t=true→RunT P ops Q N e LT fuel listed ((d, .bool true)::E) L)(h2:t=false→RunT P ops Q N e LT fuel listed ((d, .bool false)::E) L):RunT P ops Q N e LT fuel listed E L:=by
 intro a w hs hM
 cases t with
 |true=>exact h1 rfl a w (hs.pZ hl) hM
 |false=>exact h2 rfl a w (hs.pZ hl) hM
theorem RunT.one(i:Nat){o:Oper}(hr:Region.ready .any ops listed=[i])(ho:ops[i]?=some o)(hg:o.guard=none)
  (h:aB P Q N o E L (fun E' L'=>Good e LT (listed.setIfInBounds i true) L'∧RunT P ops Q N e LT fuel (listed.setIfInBounds i true) E' L')):RunT P ops Q N e LT (fuel+1) listed E L:=
 fun a w hs hM=>UN hr ho fun K' hK'=>by
  rw[if_pos (by simp[Region.wanted,hg])];exact h K' (fun E' L' hc a w hs hm=>hK' a w (hc.1.imp id fun⟨F,t⟩=>(hm.aP t).left) (hc.2 a w hs hm)) a w hs hM
theorem RunT.done(hr:Region.ready .any ops listed=[])(h:End Q N .normal E L):RunT P ops Q N e LT fuel listed E L:=fun a w hs hM=>aBO hr (h a w hs hM) fuel
theorem aE.part{l:List Oper}{d:Nat}(t:Bool)(hl:look E d=some (.bool t))(h1:t=true→aE P ops Q N l ((d, .bool true)::E) L)(h2:t=false→aE P ops Q N l ((d, .bool false)::E) L):aE P ops Q N l E L:=by
 intro a w hs hM
 cases t with
 |true=>exact h1 rfl a w (hs.pZ hl) hM
 |false=>exact h2 rfl a w (hs.pZ hl) hM
def aN(P:Program)(ops:Array Oper)(Q:Exit→Act→World→Prop)(N:Nd)(l:List Oper)(E:Env)(L:List Chunk):Prop:=
 ∀a,Sat N a E→wpQuiet P ops (fun w=>Mem w L) (fun a'=>∀w',Mem w' L→Q .normal a' w') l a
theorem aG.quiet{id:Nat}{l:List Oper}(hm:P.follows .mixedOrders=true)(hB:Region.lexB .any l.toArray=true)(h:aN P l.toArray Q N l E L):aG P Q N (.region id l.toArray true) E L:=
 fun a w hs hM=>wp_region_quiet (C:=fun w=>Mem w L) hm hB hM.drew (by simpa using h a hs)
theorem aN.nil(h:End Q N .normal E L):aN P ops Q N [] E L:=fun a hs=>wpQuiet_nil (fun w hM=>h a w hs hM)
theorem VW{o:Oper}{a:Act}{v:Value}{C:World→Prop}{K:Act→Prop}(h:∀w,C w→(execOp a.eval o).run P w= .ok (.value v) w)(hn:K (a.put o.dst v)):o.quiet P a C K:=
 ⟨v,fun w hw=>by unfold Oper.quietAt;rw[h w hw];exact⟨rfl,rfl⟩,hn⟩
theorem aN.val{d:Tmp}{op:Op}{ty:TypeId}{pos:String}{aft:Array Edge}{l:List Oper}{v:Value}(h:Still P N ⟨some d,op,ty,pos,aft,none⟩ E L v)(hd:Nat.blt d N.n=true)(k:aN P ops Q N l ((d,v)::E) L):aN P ops Q N (⟨some d,op,ty,pos,aft,none⟩::l) E L:=by
 intro a hs;refine wpQuiet_step fun K hK=>?_
 rw[if_pos (by simp[Region.wanted])];exact VW (fun w hM=>h a w hs hM) (hK _ (k _ (hs.put (dst:=some d) v hd)))
theorem aN.yes{d:Tmp}{op:Op}{ty:TypeId}{pos:String}{aft:Array Edge}{l:List Oper}{v:Value}{j:Nat}{want:Bool}(hgd:gd ops E j=some (.bool want))(h:Still P N ⟨some d,op,ty,pos,aft,some (j,want)⟩ E L v)(hd:Nat.blt d N.n=true)(k:aN P ops Q N l ((d,v)::E) L):aN P ops Q N (⟨some d,op,ty,pos,aft,some (j,want)⟩::l) E L:=by
 intro a hs;refine wpQuiet_step fun K hK=>?_
 rw[uT hs rfl hgd,if_pos (by simp)];exact VW (fun w hM=>h a w hs hM) (hK _ (k _ (hs.put (dst:=some d) v hd)))
theorem aN.no{d:Tmp}{op:Op}{ty:TypeId}{pos:String}{aft:Array Edge}{l:List Oper}{j:Nat}{want t:Bool}(hgd:gd ops E j=some (.bool t))(hne:(t==want)=false)(hd:Nat.blt d N.n=true)(k:aN P ops Q N l ((d,undef)::E) L):aN P ops Q N (⟨some d,op,ty,pos,aft,some (j,want)⟩::l) E L:=by
 intro a hs;refine wpQuiet_step fun K hK=>?_
 rw[uT hs rfl hgd,hne];exact hK _ (k _ (hs.put (dst:=some d) undef hd))
theorem aN.undef{d:Tmp}{op:Op}{ty:TypeId}{pos:String}{aft:Array Edge}{l:List Oper}{j:Nat}{want:Bool}(hgd:gd ops E j=some undef)(hd:Nat.blt d N.n=true)(k:aN P ops Q N l ((d,undef)::E) L):aN P ops Q N (⟨some d,op,ty,pos,aft,some (j,want)⟩::l) E L:=by
 intro a hs;refine wpQuiet_step fun K hK=>?_
 have:Region.wanted ⟨some d,op,ty,pos,aft,some (j,want)⟩ (yielded ops a.tmps)=false:=by
  unfold Region.wanted;simp only[OQ hs hgd,Go.undef];rfl
 rw[this];exact hK _ (k _ (hs.put (dst:=some d) Go.undef hd))
theorem aN.part{l:List Oper}{d:Nat}(t:Bool)(hl:look E d=some (.bool t))(h1:t=true→aN P ops Q N l ((d, .bool true)::E) L)(h2:t=false→aN P ops Q N l ((d, .bool false)::E) L):aN P ops Q N l E L:=by
 intro a hs
 cases t with
 |true=>exact h1 rfl a (hs.pZ hl)
 |false=>exact h2 rfl a (hs.pZ hl)
theorem aE.yes{o:Oper}{l:List Oper}{j:Nat}{want:Bool}(hg:o.guard=some (j,want))(hgd:gd ops E j=some (.bool want))(h:aB P Q N o E L (fun E' L'=>aE P ops Q N l E' L')):aE P ops Q N (o::l) E L:=by
 intro a w hs hm;refine wpList_step fun K hK=>?_
 rw[uT hs hg hgd,if_pos (by simp)];exact h K (fun E' L' hr a w hs hm=>hK a w (hr a w hs hm)) a w hs hm
theorem aE.no{d:Tmp}{op:Op}{ty:TypeId}{pos:String}{aft:Array Edge}{l:List Oper}{j:Nat}{want t:Bool}(hgd:gd ops E j=some (.bool t))(hne:(t==want)=false)(hd:Nat.blt d N.n=true)(k:aE P ops Q N l ((d,undef)::E) L):aE P ops Q N (⟨some d,op,ty,pos,aft,some (j,want)⟩::l) E L:=by
 intro a w hs hm;refine wpList_step fun K hK=>?_
 rw[uT hs rfl hgd,hne];exact hK _ _ (k _ _ (hs.put (dst:=some d) undef hd) hm)
theorem aE.undef{d:Tmp}{op:Op}{ty:TypeId}{pos:String}{aft:Array Edge}{l:List Oper}{j:Nat}{want:Bool}(hgd:gd ops E j=some Go.undef)(hd:Nat.blt d N.n=true)(k:aE P ops Q N l ((d,Go.undef)::E) L):aE P ops Q N (⟨some d,op,ty,pos,aft,some (j,want)⟩::l) E L:=
 aE.aCK rfl hgd hd k
def slot(ops:Array Oper)(j:Nat):Option Nat:=match ops[j]? with
 |some o=>o.dst
 |none=>none
section
variable{d0 d:Tmp}{op:Op}{ty:TypeId}{pos:String}{aft:Array Edge}{l:List Oper}{j:Nat}{want t:Bool}
theorem aE.CM(hj:slot ops j=some d)(hl:look E d=some (.bool t))(ht:t=true)(k:aE P ops Q N (⟨some d0,op,ty,pos,aft,some (j,want)⟩::l) ((d, .bool true)::E) L):aE P ops Q N (⟨some d0,op,ty,pos,aft,some (j,want)⟩::l) E L:=
 fun a w hs hM=>k a w (hs.pZ (ht▸hl)) hM
theorem aE.CL(hj:slot ops j=some d)(hl:look E d=some (.bool t))(ht:t=false)(k:aE P ops Q N (⟨some d0,op,ty,pos,aft,some (j,want)⟩::l) ((d, .bool false)::E) L):aE P ops Q N (⟨some d0,op,ty,pos,aft,some (j,want)⟩::l) E L:=
 fun a w hs hM=>k a w (hs.pZ (ht▸hl)) hM
theorem aE.ask(hj:slot ops j=some d)(hl:look E d=some (.bool t))(h1:t=true→aE P ops Q N (⟨some d0,op,ty,pos,aft,some (j,want)⟩::l) ((d, .bool true)::E) L)(h2:t=false→aE P ops Q N (⟨some d0,op,ty,pos,aft,some (j,want)⟩::l) ((d, .bool false)::E) L):aE P ops Q N (⟨some d0,op,ty,pos,aft,some (j,want)⟩::l) E L:=
 aE.part t hl h1 h2
theorem aN.CM(hj:slot ops j=some d)(hl:look E d=some (.bool t))(ht:t=true)(k:aN P ops Q N (⟨some d0,op,ty,pos,aft,some (j,want)⟩::l) ((d, .bool true)::E) L):aN P ops Q N (⟨some d0,op,ty,pos,aft,some (j,want)⟩::l) E L:=
 fun a hs=>k a (hs.pZ (ht▸hl))
theorem aN.CL(hj:slot ops j=some d)(hl:look E d=some (.bool t))(ht:t=false)(k:aN P ops Q N (⟨some d0,op,ty,pos,aft,some (j,want)⟩::l) ((d, .bool false)::E) L):aN P ops Q N (⟨some d0,op,ty,pos,aft,some (j,want)⟩::l) E L:=
 fun a hs=>k a (hs.pZ (ht▸hl))
theorem aN.ask(hj:slot ops j=some d)(hl:look E d=some (.bool t))(h1:t=true→aN P ops Q N (⟨some d0,op,ty,pos,aft,some (j,want)⟩::l) ((d, .bool true)::E) L)(h2:t=false→aN P ops Q N (⟨some d0,op,ty,pos,aft,some (j,want)⟩::l) ((d, .bool false)::E) L):aN P ops Q N (⟨some d0,op,ty,pos,aft,some (j,want)⟩::l) E L:=
 aN.part t hl h1 h2
end
theorem aS.p6{K:Act→World→Prop}(h:aS Q):aS (Exit.then K Q):=h
theorem aS.block{id:Nat}(h:aS Q):aS (Exit.inBlock id Q):=h
theorem aS.body{fn:Func}{R:Ending→World→Prop}:aS (bodyPost P fn R):=fun c a w d v h=>by
 cases d<;>exact h
theorem Good.has(t:aR LT L F):Good e LT listed L:= .inr ⟨F,t⟩
theorem Good.up(h:listed.getD e false=true):Good e LT listed L:= .inl h
end
def aY(n:Int):List Value:=[.int .i64 n]
def eQ(c:Nat):List Value:=[.int .u8 (c:Int)]
def oK(b:Bool):List Value:=[.bool b]
instance:bH aY:=⟨fun _=>rfl,by decide,fun a u hu=>by simp[aY]at hu;subst hu;rfl⟩
instance:bH eQ:=⟨fun _=>rfl,by decide,fun a u hu=>by simp[eQ]at hu;subst hu;rfl⟩
instance:bH oK:=⟨fun _=>rfl,by decide,fun a u hu=>by simp[oK]at hu;subst hu;rfl⟩
theorem gT(k:Nat):(k:Int)+1=((k+1:Nat):Int):=by omega
theorem Mem.keeps{w w':World}{cs:List Chunk}{S:Nat→Prop}(h:Mem w cs)(k:cB S w w')(hs:∀c∈cs,∀b,c.dA b→¬S b):Mem w' cs:=
 ⟨fun c hc=>c.lT k (hs c hc) (h.all c hc),h.sep⟩
@[irreducible] def bC (cs : List Chunk) : Chunk where
 holds w:=Mem w cs∧∀c∈cs,c.bE=true
 dA b:=∃c∈cs,c.dA b
 bE:=true
 lT k hs h:=⟨h.1.keeps k (fun c hc b hb=>hs b ⟨c,hc,hb⟩),h.2⟩
 lt h b hb:=by obtain⟨c,hc,hb⟩:=hb;exact c.lt (h.1.all c hc) b hb
theorem qJ{w:World}{cs:List Chunk}:(bC cs).holds w↔Mem w cs∧∀c∈cs,c.bE=true:=by unfold bC;exact Iff.rfl
theorem xK{b:Nat}{cs:List Chunk}:(bC cs).dA b↔∃c∈cs,c.dA b:=by unfold bC;exact Iff.rfl
theorem iB{cs:List Chunk}:(bC cs).bE=true:=by unfold bC;rfl
theorem Mem.pack{w:World}{cs L:List Chunk}(h:Mem w (cs ++L))(hx:∀c∈cs,c.bE=true):Mem w (bC cs::L):=by
 have hsep:=List.pairwise_append.1 h.sep;refine⟨fun c hc=>?_,List.pairwise_cons.2 ⟨fun d hd _ b hb hb'=>?_,hsep.2.1⟩⟩
 ·rcases List.mem_cons.1 hc with rfl|hc
  ·exact qJ.2 ⟨h.left,hx⟩
  ·exact h.all c (List.mem_append_right _ hc)
 ·obtain⟨c,hc,hcb⟩:=xK.1 hb;exact hsep.2.2 c hc d hd (.inl (hx c hc)) b hcb hb'
theorem Mem.unpack{w:World}{cs L:List Chunk}(h:Mem w (bC cs::L)):Mem w (cs ++L):=by
 have hb:=qJ.1 (h.all (bC cs) (by simp));have hp:=List.pairwise_cons.1 h.sep;refine⟨fun c hc=>?_,List.pairwise_append.2 ⟨hb.1.sep,hp.2,fun c hc d hd _ b hcb hdb=>?_⟩⟩
 ·rcases List.mem_append.1 hc with hc|hc
  ·exact hb.1.all c hc
  ·exact h.all c (by simp[hc])
 ·exact hp.1 d hd (.inl iB) b (xK.2 ⟨c,hc,hcb⟩) hdb
theorem Mem.gH{w:World}{L:List Chunk}(h:Mem w L):Mem w (bC []::L):=Mem.pack (cs:=[]) h (by simp)
theorem Mem.B8{w:World}{cs ds L L' F:List Chunk}(h:Mem w L)(t:Take (bC cs) L L')(t2:aR ds L' F)(hx:∀c∈ds,c.bE=true):Mem w (bC (cs ++ds)::F):=by
 have h1:=(h.take t).unpack;have hb:=qJ.1 (h.has t);have h2:Mem w (cs ++(ds ++F)):=h1.perm (List.Perm.append_left _ t2.perm);rw[←List.append_assoc]at h2;exact h2.pack (fun c hc=>(List.mem_append.1 hc).elim (hb.2 c) (hx c))
theorem Mem.dup{w:World}{L L':List Chunk}{c c':Chunk}(h:Mem w L)(t:Take c L L')(hx:c'.bE=false)(hc:c'.holds w)(hf:∀b,c'.dA b→c.dA b)(hcx:c.bE=false):Mem w (c'::L):=by
 refine⟨fun d hd=>?_,List.pairwise_cons.2 ⟨fun d hd hdx b hb hb'=>?_,h.sep⟩⟩
 ·rcases List.mem_cons.1 hd with rfl|hd
  ·exact hc
  ·exact h.all d hd
 ·have hdx:d.bE=true:=by rcases hdx with h|h;rw[hx]at h;cases h;exact h
  have h2:=h.take t;have hd2:d∈c::L':=t.perm.mem_iff.1 hd;rcases List.mem_cons.1 hd2 with rfl|hd2
  ·rw[hcx]at hdx;cases hdx
  ·exact(List.pairwise_cons.1 h2.sep).1 d hd2 (.inr hdx) b (hf b hb) hb'
section
variable{α:Type}{iα:Inhabited α}{ao:Option Addr}{n cap:Nat}{e:TypeId}{f:α→List Value}{ef:bH f}{l:List α}
theorem Row.sub [bH f]{w:World}{lo hi:Nat}(h:Row w (.slice ao n cap) (sz f) n (l.flatMap f))(hln:l.length=n)(h1:lo≤hi)(h2:hi≤n):
  Row w (.slice (if cap=lo then ao else ao.map (·.add (lo*sz f))) (hi-lo) (cap-lo)) (sz f) (hi-lo) (((l.take hi).drop lo).flatMap f):=by
 obtain⟨g1,g2,ao',cap',g3,g4,g5⟩:=h;simp only[Value.slice.injEq]at g3;obtain⟨rfl, -,rfl⟩:=g3;refine⟨by rw[tS];simp;congr 1;omega,by omega,_,_,rfl,by omega,fun hn=>?_⟩;obtain⟨b,o,rfl,hc⟩:=g5 (by omega);rw[if_neg (by omega)];refine⟨b,o+lo*sz f,by simp[Addr.tJ],fun j hj=>?_⟩;have hmul:(hi-lo)*sz f+lo*sz f=hi*sz f:=by rw[←Nat.add_mul];congr 1;omega
 have hmul2:hi*sz f≤n*sz f:=Nat.mul_le_mul_right _ h2;rw[←KA,←R2,List.getElem?_drop,List.getElem?_take,if_pos (by omega),Nat.add_assoc];exact hc _ (by omega)
theorem MF{lo:Nat}{m c:Nat}{k:Nat}(h:(Value.slice (if cap=lo then ao else ao.map (·.add (lo*m))) c (cap-lo)).ownBlock=some k)(n':Nat):(Value.slice ao n' cap).ownBlock=some k:=by
 cases ao with
 |none=>simp[Value.ownBlock]at h
 |some a0=>
  by_cases hc':cap=lo
  ·rw[if_pos hc']at h;exact h
  ·rw[if_neg hc']at h;simp only[Value.ownBlock,Option.map_some,Option.some.injEq]at h⊢;rw[←h];unfold Addr.add
   split<;>rfl
variable{P:Program} [eT P]{Q:Exit→Act→World→Prop}{N:Nd}{E:Env}{L L':List Chunk}
variable{dst:Option Tmp}{ty:TypeId}{pos:String}{aft:Array Edge}{g:Option (Nat×Bool)}
theorem aB.aAz{t:TypeId}{s' b' s2 b2 lo hi:Nat}{d2:dO}{z' z2:List Value}{x:Operand}{ol oh:Option Operand}{C:Env→List Chunk→Prop}(hx:ev E x=some (.slice ao n cap))(ht:bB P t=some ⟨.slice e,s',b',z'⟩)(he:bB P e=some ⟨d2,s2,b2,z2⟩)
  (hm:Take (rd ao n cap f l) L L') (hs2:s2=sz f) (hb:eB E n ol oh lo hi) (h1:lo≤hi) (h2:hi≤n) (hd:cR N dst=true)
  (k:∀ao' cap',C (cP dst (.slice ao' (hi-lo) cap') E) (rd ao' (hi-lo) cap' f ((l.take hi).drop lo)::L)):aB P Q N ⟨dst, .slice t x ol oh none,ty,pos,aft,g⟩ E L C:=fun K hK A w hS hM=>by
 obtain⟨hrow,hln⟩:=jJ.1 (hM.has hm);have hcap:n≤cap:=by
  obtain⟨-, -,ao',cap',g2,g3, -⟩:=hrow;simp only[Value.slice.injEq]at g2;obtain⟨-, -,rfl⟩:=g2;exact g3
 unfold Oper.wp;rw[DI hS hx ht he hb h1 (by omega) w];subst hs2;refine hK _ _ (k _ _) _ _ (hS.put _ hd) (hM.dup hm eO (jJ.2 ⟨Row.sub hrow hln h1 h2,by simp;omega⟩) (fun c hc=>iZ.2 ⟨MF (iZ.1 hc).1 n,by have:=(iZ.1 hc).2;omega⟩) eO)
theorem aB.aBA{t:TypeId}{s' b' s2 b2 hi:Nat}{d2:dO}{z' z2:List Value}{x:Operand}{oh:Option Operand}{C:Env→List Chunk→Prop}(hx:ev E x=some (.slice ao n cap))(ht:bB P t=some ⟨.slice e,s',b',z'⟩)(he:bB P e=some ⟨d2,s2,b2,z2⟩)
  (hm:Take (rd ao n cap f l) L L') (hs2:s2=sz f) (hb:eB E n none oh 0 hi) (h2:hi≤n) (hd:cR N dst=true)
  (k:∀ao' cap',C (cP dst (.slice ao' hi cap') E) (rd ao' hi cap' f (l.take hi)::L)):aB P Q N ⟨dst, .slice t x none oh none,ty,pos,aft,g⟩ E L C:=
 aB.aAz hx ht he hm hs2 hb (Nat.zero_le _) h2 hd (fun ao' cap'=>by simpa using k ao' cap')
theorem aB.aAu{t:TypeId}{s' b' s2 b2 hi:Nat}{d2:dO}{z' z2:List Value}{x:Operand}{oh:Option Operand}{C:Env→List Chunk→Prop}(hx:ev E x=some (.slice ao n cap))(ht:bB P t=some ⟨.slice e,s',b',z'⟩)(he:bB P e=some ⟨d2,s2,b2,z2⟩)
  (hm:Take (arr ao n cap e f l) L L') (hs2:s2=sz f) (hb:eB E n none oh 0 hi) (h2:hi≤n) (hd:cR N dst=true)
  (k:∀ao' cap',C (cP dst (.slice ao' hi cap') E) (arr ao' hi cap' e f (l.take hi)::L')):aB P Q N ⟨dst, .slice t x none oh none,ty,pos,aft,g⟩ E L C:=
 aB.Q6 hx ht he hm hs2 hb (Nat.zero_le _) h2 hd (fun ao' cap'=>by simpa using k ao' cap')
theorem aB.aAv{t:TypeId}{s' b' s2 b2 lo:Nat}{d2:dO}{z' z2:List Value}{x:Operand}{ol:Option Operand}{C:Env→List Chunk→Prop}(hx:ev E x=some (.slice ao n cap))(ht:bB P t=some ⟨.slice e,s',b',z'⟩)(he:bB P e=some ⟨d2,s2,b2,z2⟩)
  (hm:Take (arr ao n cap e f l) L L') (hs2:s2=sz f) (hb:eB E n ol none lo n) (h2:lo≤n) (hn:l.length=n) (hd:cR N dst=true)
  (k:∀ao' cap',C (cP dst (.slice ao' (n-lo) cap') E) (arr ao' (n-lo) cap' e f (l.drop lo)::L')):aB P Q N ⟨dst, .slice t x ol none none,ty,pos,aft,g⟩ E L C:=
 aB.Q6 hx ht he hm hs2 hb h2 (Nat.le_refl _) hd (fun ao' cap'=>by have:=k ao' cap';rwa [List.take_of_length_le (by omega)])
end
section
variable{P:Program} [eT P]{N:Nd}{E:Env}{L L' F:List Chunk}{σ:Type}{fn:Func}{post:σ→Prop}{val:σ→Value}{mem:σ→List Chunk}{w0:World}{S:Nat→Prop}
theorem uL{w:World}{t:TypeId}{b s' b':Nat}{bt:TypeId}{fs:List (Nat×TypeId)}{z' cs:List Value}(ht:bB P t=some ⟨.struct fs,s',b',z'⟩)(hb:eX w b cs.toArray bt)(hl:cs.length=s'):(loadVar t ⟨b,0,none⟩).run P w= .ok (.agg cs.toArray) w:=by
 obtain⟨l,h1, -⟩:=(cI ht).struct;obtain⟨x',z,h3,h4, -⟩:=(cI ht).info;exact run_loadVar_mid (P:=P) w b 0 t cs _ (fun j v hj=>by rw[hb.cell];simpa using hj) h1 rfl (by rw[h3];simp[h4,hl])
theorem End.imp{Q:Exit→Act→World→Prop}{e:Exit}{L':List Chunk}(t:∀w,Mem w L→Mem w L')(h:End Q N e E L'):End Q N e E L:=fun a w hs hm=>h a w hs (t w hm)
theorem End.aBN{t u:Tmp}{ty bt:TypeId}{b s' b':Nat}{fs:List (Nat×TypeId)}{z' cs:List Value}{v:Value}(x:σ)(hr:fn.results= #[.cell t ty, .tmp u])(hv:look E t=some (.pointer (some ⟨b,0,none⟩)))(ht:bB P ty=some ⟨.struct fs,s',b',z'⟩)
  (hm:Take (aF b cs bt) L L') (hl:cs.length=s') (hu:look E u=some v) (he:val x= .tuple #[.agg cs.toArray,v]) (hp:post x) (hx:∀c∈mem x,c.bE=true) (hF:aR (aO w0 S::mem x) L F) (hD:N.ds=[]):End (bodyPost P fn (eJ post val mem w0 S)) N .ret E L:=fun a w hs hM=>by
 have hb:=jO.1 (hM.has hm);have h1:=hs.slot t _ hv;have h2:=hs.slot u _ hu;refine bodyPost_ret (v:= .tuple #[.agg cs.toArray,v]) ?_ (hs.defs.trans hD) ⟨x,hp,by rw[he],hx,(hM.aP hF).left⟩;simp[results,hr,h1,h2,asAddr,uL ht hb hl]
theorem End.aBM{t:Tmp}{ty bt:TypeId}{b s' b':Nat}{fs:List (Nat×TypeId)}{z' cs:List Value}(x:σ)(hr:fn.results= #[.cell t ty])(hv:look E t=some (.pointer (some ⟨b,0,none⟩)))(ht:bB P ty=some ⟨.struct fs,s',b',z'⟩)
  (hm:Take (aF b cs bt) L L') (hl:cs.length=s') (he:val x= .agg cs.toArray) (hp:post x) (hx:∀c∈mem x,c.bE=true) (hF:aR (aO w0 S::mem x) L F) (hD:N.ds=[]):End (bodyPost P fn (eJ post val mem w0 S)) N .ret E L:=fun a w hs hM=>by
 have hb:=jO.1 (hM.has hm);have h1:=hs.slot t _ hv;refine bodyPost_ret (v:= .agg cs.toArray) ?_ (hs.defs.trans hD) ⟨x,hp,by rw[he],hx,(hM.aP hF).left⟩;simp[results,hr,h1,asAddr,uL ht hb hl]
end
theorem End.some{Q:Exit→Act→World→Prop}{N:Nd}{E:Env}{L F:List Chunk}{K:Act→World→Prop}{σ:Type}{ok:σ→Prop}{inv:σ→Env}{mem:σ→List Chunk}(hK:∀s,ok s→∀a w,Sat N a (inv s)→Mem w (mem s)→K a w)(s:σ)(h1:ok s)
  (hE:Sub (inv s) E) (hL:aR (mem s) L F):End (Exit.then K Q) N .normal E L:=fun a w hs hm=>hK s h1 a w (hs.sub hE) (hm.aP hL).left
theorem End.aFS{Q:Exit→Act→World→Prop}{N:Nd}{E:Env}{L F':List Chunk}{σ:Type}{K:Act→World→Prop}{ok:σ→Prop}{inv:σ→Env}{mem:σ→List Chunk}{μ:σ→Nat}{m:Nat}
  (hK:∀s',ok s'→μ s'<m→∀a w,Sat N a (inv s')→Mem w (mem s' ++[])→K a w) (s:σ) (h1:ok s) (h2:μ s<m) (hE:Sub (inv s) E) (hL:aR (mem s) L F'):End (Exit.then K Q) N .normal E L:=
 fun a w hs hm=>hK s h1 h2 a w (hs.sub hE) (by simpa using(hm.aP hL).left)
class cJ (κ:Type) [DecidableEq κ] where
 kd:dO
 td:TypeDesc
 kv:κ→Value
 BC:∀{P:Program} [eT P] {t:TypeId} {s b:Nat} {z:List Value},jC P t ⟨kd,s,b,z⟩→P.underlying t=some td
 same:∀a b,Instr.sameNow td (kv a) (kv b)=some (decide (a=b))
 zL:∀{P:Program} {kt:TypeId},P.underlying kt=some td→∀em k w,(Instr.checkKey em 10000 kt (kv k)).run P w= .ok () w
 stay:∀{P:Program} k w,(Instr.keyThatStays (kv k) (kv k)).run P w= .ok (kv k) w
instance:cJ Int where
 kd:= .int .i64
 td:= .int .i64
 kv k:= .int .i64 k
 BC h:=h.int
 same a b:=by simp[Instr.sameNow,Bool.beq_eq_decide_eq]
 zL hk em k w:=by
  rw[show(10000:Nat)=9999+1 from rfl];unfold Instr.checkKey;simp[run_underlying hk]
 stay k w:=by
  unfold Instr.keyThatStays;rw[show(10000:Nat)=9999+1 from rfl];simp[Instr.sameBits]
section
variable{κ:Type} [DecidableEq κ]
def bG{α:Type}:List (κ×α)→κ→Option α
 |[],_=>none
 |(q,a)::r,k=>if q=k then some a else bG r k
def jG{α:Type}:List (κ×α)→κ→α→List (κ×α)
 |[],k,a=>[(k,a)]
 |(q,b)::r,k,a=>if q=k then(q,a)::r else(q,b)::jG r k a
end
section
variable{κ:Type} [DecidableEq κ] [cJ κ]{α:Type}(g:α→Value)
theorem I5(k:κ):∀(es:List MapEntry) (l:List (κ×α)) (i:Nat),es.map (fun e=>(e.key,e.val))=l.map (fun p=>(cJ.kv p.1,g p.2))→
  match bG l k with
  |none=>Instr.findNow (cJ.td κ) (cJ.kv k) es i=some none
  |some a=>∃j,Instr.findNow (cJ.td κ) (cJ.kv k) es i=some (some (i+j,g a))∧(es[j]?).map (·.key)=some (cJ.kv k)∧
    ∀a',(es.modify j (fun e=>{e with key:=cJ.kv k,val:=g a'})).map (fun e=>(e.key,e.val))=(jG l k a').map (fun p=>(cJ.kv p.1,g p.2))
 |[],[],i,_=>by simp[bG,Instr.findNow]
 |[],_::_,i,h=>by simp at h
 |_::_,[],i,h=>by simp at h
 |e::es,(q,b)::l,i,h=>by
  simp only[List.map_cons,List.cons.injEq,Prod.mk.injEq]at h;obtain⟨⟨h1,h2⟩,h3⟩:=h;simp only[bG]
  by_cases hq:q=k
  ·subst hq;simp only[if_pos rfl];refine⟨0,by simp[Instr.findNow,h1,h2,cJ.same],by simp[h1],fun a'=>?_⟩;simp only[List.modify_zero_cons,List.map_cons,jG,if_true,h3]
  ·rw[if_neg hq];have ih:=I5 k es l (i+1) h3;have hne:Instr.sameNow (cJ.td κ) (cJ.kv k) e.key=some false:=by rw[h1,cJ.same];simp;exact fun h=>hq h.symm
   cases hm:bG l k with
   |none=>
    rw[hm]at ih;simp only at ih⊢;simp[Instr.findNow,hne,ih]
   |some a=>
    rw[hm]at ih;simp only at ih⊢;obtain⟨j,i1,i2,i3⟩:=ih;refine⟨j+1,?_,by simpa using i2,fun a'=>?_⟩
    ·simp[Instr.findNow,hne,i1];omega
    ·rw[List.modify_succ_cons,List.map_cons,i3 a'];simp[jG,hq,h1,h2]
theorem pQ(k:κ)(a:α):∀l:List (κ×α),bG l k=none→jG l k a=l ++[(k,a)]
 |[],_=>rfl
 |(q,b)::r,h=>by
  unfold bG at h
  by_cases hq:q=k
  ·rw[if_pos hq]at h;cases h
  ·rw[if_neg hq]at h;simp[jG,hq,pQ k a r h]
end
section
variable{κ:Type} [dκ:DecidableEq κ] [iκ:cJ κ]{α:Type}
structure m7(es:Array MapEntry)(clock:Nat):Prop where
 lt:∀e∈es.toList,e.born<clock
 nd:(es.toList.map (·.born)).Nodup
theorem m7.nil:m7 #[] 0:=⟨fun e h=>by simp at h,by simp⟩
theorem m7.push{es:Array MapEntry}{clock:Nat}(h:m7 es clock)(k v:Value):m7 (es.push {key:=k,val:=v,born:=clock}) (clock+1):=by
 refine⟨fun e he=>?_,?_⟩
 ·simp only[Array.toList_push,List.mem_append,List.mem_singleton]at he;rcases he with he|rfl
  ·have:=h.lt e he;omega
  ·exact Nat.lt_succ_self _
 ·simp only[Array.toList_push,List.map_append,List.map_cons,List.map_nil];refine List.nodup_append.2 ⟨h.nd,by simp,fun a ha b hb=>?_⟩;obtain⟨e,he,rfl⟩:=List.mem_map.1 ha;have:=h.lt e he;rw[List.mem_singleton.1 hb];omega
theorem m7.modify{es:Array MapEntry}{clock:Nat}(h:m7 es clock)(j:Nat)(k v:Value):m7 (es.modify j fun e=>{e with key:=k,val:=v}) clock:=by
 have e:(es.modify j fun e=>{e with key:=k,val:=v}).toList.map (·.born)=es.toList.map (·.born):=by
  rw[Array.toList_modify];refine List.ext_getElem (by simp) fun i h1 h2=>?_
  simp only[List.getElem_map,List.getElem_modify]
  split<;>rfl
 refine⟨fun x hx=>?_,by rw[e];exact h.nd⟩;have:x.born∈es.toList.map (·.born):=by rw[←e];exact List.mem_map_of_mem hx
 obtain⟨y,hy,hxy⟩:=List.mem_map.1 this;rw[←hxy];exact h.lt y hy
@[irreducible] def mp (b : Nat) (g : α → Value) (l : List (κ × α)) : Chunk where
 holds w:=∃es clock,w.heap[b]?=some (.map es clock)∧es.toList.map (fun e=>(e.key,e.val))=l.map (fun p=>(cJ.kv p.1,g p.2))∧m7 es clock
 dA k:=k=b
 bE:=true
 lT k hs h:=by
  obtain⟨es,clock,h1,h2⟩:=h;exact⟨es,clock,k.at h1 (hs _ rfl),h2⟩
 lt h k hk:=by
  obtain⟨es,clock,h1,h2⟩:=h;subst hk;exact(Array.getElem?_eq_some_iff.1 h1).1
variable{b:Nat}{g:α→Value}{l:List (κ×α)}{w:World}
theorem uB:(mp b g l).holds w↔∃es clock,w.heap[b]?=some (.map es clock)∧es.toList.map (fun e=>(e.key,e.val))=l.map (fun p=>(cJ.kv p.1,g p.2))∧m7 es clock:=by unfold mp;exact Iff.rfl
theorem x8{k:Nat}:(mp b g l).dA k↔k=b:=by unfold mp;exact Iff.rfl
theorem gU:(mp b g l).bE=true:=by unfold mp;rfl
theorem run_findKey{P:Program}{kt:TypeId}(hk:P.underlying kt=some (cJ.td κ))(k:κ)(es:List MapEntry)(r)(h:Instr.findNow (cJ.td κ) (cJ.kv k) es 0=some r)(w:World):(Instr.findKey kt (cJ.kv k) es).run P w= .ok r w:=by
 unfold Instr.findKey;simp[run_underlying hk,h]
variable{P:Program} [eT P]{Q:Exit→Act→World→Prop}{N:Nd}{E:Env}{L L':List Chunk}
variable{dst:Option Tmp}{ty:TypeId}{pos:String}{aft:Array Edge}{gu:Option (Nat×Bool)}
variable{t kt et s1 b1 s2 b2:Nat}{z1 z2:List Value}
theorem aB.pO{C:Env→List Chunk→Prop}(g:α→Value)(hd:cR N dst=true)
  (k:∀b,C (cP dst (.map (some b)) E) (mp b g ([]:List (κ×α))::L)):aB P Q N ⟨dst, .makeMap t none,ty,pos,aft,gu⟩ E L C:=fun K hK A w hS hM=>by
 have hr:(execOp A.eval ⟨dst, .makeMap t none,ty,pos,aft,gu⟩).run P w= .ok (.value (.map (some w.heap.size))) (w.alloc (.map #[] 0)):=by
  simp only[execOp,Sem.run_bind,Option.map_none,RowKit.run_makeMap];rfl
 unfold Oper.wp;rw[hr];refine hK _ _ (k w.heap.size) _ _ (hS.put _ hd) (hM.add ((cB.refl _ _).alloc _) (uB.2 ⟨#[],0,?_,rfl, .nil⟩) (fun b hb=>by rw[x8.1 hb];exact Nat.le_refl _));exact heap_alloc_new w _
theorem aB.makeMap{C:Env→List Chunk→Prop}(g:α→Value)(hd:cR N dst=true)(k:∀b,C (cP dst (.map (some b)) E) (mp b g ([]:List (Int×α))::L)):aB P Q N ⟨dst, .makeMap t none,ty,pos,aft,gu⟩ E L C:=aB.pO g hd k
theorem WI{ok:Bool}{k:κ}(ht:bB P t=some ⟨.map kt et,s1,b1,z1⟩)(hkt:bB P kt=some ⟨cJ.kd κ,s2,b2,z2⟩)(z:Value)(hz:(zeroValue et).run P w= .ok z w)(hm:(mp b g l).holds w):
  (Instr.lookup t (.map (some b)) (cJ.kv k) ok).run P w= .ok (if ok then .tuple #[((bG l k).map g).getD z, .bool (bG l k).isSome]else((bG l k).map g).getD z) w:=by
 obtain⟨es,clock,h1,h2, -⟩:=uB.1 hm;have h3:=I5 g k es.toList l 0 h2;have hu:=(cI ht).map;have hk:=cJ.BC (cI hkt);unfold Instr.lookup
 cases hf:bG l k with
 |none=>
  rw[hf]at h3;simp only at h3;simp[run_underlying hu,MapKept.run_getObj_map h1,cJ.zL hk,run_findKey hk k _ _ h3,hz]
 |some a=>
  rw[hf]at h3;obtain⟨j,h3, -⟩:=h3;simp[run_underlying hu,MapKept.run_getObj_map h1,cJ.zL hk,run_findKey hk k _ _ h3]
variable{dκ}{iκ}
theorem Still.lookup{x y:Operand}{k:κ}{kv:Value}{kd:dO}{ok:Bool}{z:Value}(hx:ev E x=some (.map (some b)))(hy:ev E y=some kv)(ht:bB P t=some ⟨.map kt et,s1,b1,z1⟩)(hkt:bB P kt=some ⟨kd,s2,b2,z2⟩)
  (hz:(P.info? et).map (·.zero)=some (some z)) (hm:Take (mp b g l) L L') (hk:kv=cJ.kv k∧kd=cJ.kd κ):
  Still P N ⟨dst, .lookup t x y ok,ty,pos,aft,gu⟩ E L (if ok then .tuple #[((bG l k).map g).getD z, .bool (bG l k).isSome]else((bG l k).map g).getD z):=fun A w hS hM=>by
 obtain⟨rfl,rfl⟩:=hk;have hz':(zeroValue et).run P w= .ok z w:=by
  cases hi:P.info? et with
  |none=>rw[hi]at hz;cases hz
  |some i=>rw[hi]at hz;simp at hz;simp[zeroValue,typeInfo,hi,hz]
 simp only[execOp,hS.ev hx,hS.ev hy,Sem.run_bind,WI ht hkt z hz' (hM.has hm),Result.andThen_ok,Sem.run_pure]
theorem Still.LH{x y:Operand}{k:κ}{kv:Value}{kd:dO}{z:Value}(hx:ev E x=some (.map (some b)))(hy:ev E y=some kv)(ht:bB P t=some ⟨.map kt et,s1,b1,z1⟩)(hkt:bB P kt=some ⟨kd,s2,b2,z2⟩)
  (hz:(P.info? et).map (·.zero)=some (some z)) (hm:Take (mp b g l) L L') (hk:kv=cJ.kv k∧kd=cJ.kd κ):
  Still P N ⟨dst, .lookup t x y true,ty,pos,aft,gu⟩ E L (.tuple #[((bG l k).map g).getD z, .bool (bG l k).isSome]):=Still.lookup (ok:=true) hx hy ht hkt hz hm hk
theorem Still.F0{x y:Operand}{k:κ}{kv:Value}{kd:dO}{z:Value}(hx:ev E x=some (.map (some b)))(hy:ev E y=some kv)(ht:bB P t=some ⟨.map kt et,s1,b1,z1⟩)(hkt:bB P kt=some ⟨kd,s2,b2,z2⟩)
  (hz:(P.info? et).map (·.zero)=some (some z)) (hm:Take (mp b g l) L L') (hk:kv=cJ.kv k∧kd=cJ.kd κ):
  Still P N ⟨dst, .lookup t x y false,ty,pos,aft,gu⟩ E L (((bG l k).map g).getD z):=Still.lookup (ok:=false) hx hy ht hkt hz hm hk
theorem Still.aDA{x y:Operand}{k:κ}{kv:Value}{kd:dO}{z:Value}(hx:ev E x=some (.map (some b)))(hy:ev E y=some kv)(ht:bB P t=some ⟨.map kt et,s1,b1,z1⟩)(hkt:bB P kt=some ⟨kd,s2,b2,z2⟩)
  (hz:(P.info? et).map (·.zero)=some (some z)) (hm:Take (mp b g l) L L') (hk:kv=cJ.kv k∧kd=cJ.kd κ) (hf:bG l k=none):Still P N ⟨dst, .lookup t x y true,ty,pos,aft,gu⟩ E L (.tuple #[z, .bool false]):=by
 have:=Still.LH (N:=N) (dst:=dst) (ty:=ty) (pos:=pos) (aft:=aft) (gu:=gu) hx hy ht hkt hz hm hk;rw[hf]at this;exact this
theorem Still.aDB{x y:Operand}{k:κ}{kv:Value}{kd:dO}{z:Value}{a:α}(hx:ev E x=some (.map (some b)))(hy:ev E y=some kv)(ht:bB P t=some ⟨.map kt et,s1,b1,z1⟩)(hkt:bB P kt=some ⟨kd,s2,b2,z2⟩)
  (hz:(P.info? et).map (·.zero)=some (some z)) (hm:Take (mp b g l) L L') (hk:kv=cJ.kv k∧kd=cJ.kd κ) (hf:bG l k=some a):Still P N ⟨dst, .lookup t x y true,ty,pos,aft,gu⟩ E L (.tuple #[g a, .bool true]):=by
 have:=Still.LH (N:=N) (dst:=dst) (ty:=ty) (pos:=pos) (aft:=aft) (gu:=gu) hx hy ht hkt hz hm hk;rw[hf]at this;exact this
theorem Still.aCx{x y:Operand}{k:κ}{kv:Value}{kd:dO}{z:Value}(hx:ev E x=some (.map (some b)))(hy:ev E y=some kv)(ht:bB P t=some ⟨.map kt et,s1,b1,z1⟩)(hkt:bB P kt=some ⟨kd,s2,b2,z2⟩)
  (hz:(P.info? et).map (·.zero)=some (some z)) (hm:Take (mp b g l) L L') (hk:kv=cJ.kv k∧kd=cJ.kd κ) (hf:bG l k=none):Still P N ⟨dst, .lookup t x y false,ty,pos,aft,gu⟩ E L z:=by
 have:=Still.F0 (N:=N) (dst:=dst) (ty:=ty) (pos:=pos) (aft:=aft) (gu:=gu) hx hy ht hkt hz hm hk;rw[hf]at this;exact this
theorem Still.aCy{x y:Operand}{k:κ}{kv:Value}{kd:dO}{z:Value}{a:α}(hx:ev E x=some (.map (some b)))(hy:ev E y=some kv)(ht:bB P t=some ⟨.map kt et,s1,b1,z1⟩)(hkt:bB P kt=some ⟨kd,s2,b2,z2⟩)
  (hz:(P.info? et).map (·.zero)=some (some z)) (hm:Take (mp b g l) L L') (hk:kv=cJ.kv k∧kd=cJ.kd κ) (hf:bG l k=some a):Still P N ⟨dst, .lookup t x y false,ty,pos,aft,gu⟩ E L (g a):=by
 have:=Still.F0 (N:=N) (dst:=dst) (ty:=ty) (pos:=pos) (aft:=aft) (gu:=gu) hx hy ht hkt hz hm hk;rw[hf]at this;exact this
theorem aB.mapUpdate{x y v:Operand}{key:κ}{kv:Value}{kd:dO}{a:α}{C:Env→List Chunk→Prop}(hx:ev E x=some (.map (some b)))(hy:ev E y=some kv)(hv:ev E v=some (g a))
  (ht:bB P t=some ⟨.map kt et,s1,b1,z1⟩) (hkt:bB P kt=some ⟨kd,s2,b2,z2⟩) (hm:Take (mp b g l) L L') (hk:kv=cJ.kv key∧kd=cJ.kd κ) (hd:cR N dst=true)
  (k:C (cP dst undef E) (mp b g (jG l key a)::L')):aB P Q N ⟨dst, .mapUpdate t x y v,ty,pos,aft,gu⟩ E L C:=fun K hK A w hS hM=>by
 obtain⟨rfl,rfl⟩:=hk;obtain⟨k',rfl⟩:∃k',k'=key:=⟨_,rfl⟩;obtain⟨es,clock,h1,h2,hb⟩:=uB.1 (hM.has hm);have h3:=I5 g k' es.toList l 0 h2;have hu:=(cI ht).map;have hk:=cJ.BC (cI hkt);have hlt:b<w.heap.size:=(Array.getElem?_eq_some_iff.1 h1).1;have key:∃es' clock',(Instr.mapUpdate t (.map (some b)) (cJ.kv k') (g a)).run P w= .ok () {w with heap:=w.heap.setIfInBounds b (.map es' clock')}∧es'.toList.map (fun e=>(e.key,e.val))=(jG l k' a).map (fun p=>(cJ.kv p.1,g p.2))∧m7 es' clock':=by
  unfold Instr.mapUpdate
  cases hf:bG l k' with
  |none=>
   rw[hf]at h3;simp only at h3;refine⟨es.push {key:=cJ.kv k',val:=g a,born:=clock},clock+1,?_,?_,hb.push _ _⟩
   ·simp[run_underlying hu,MapKept.run_getObj_map h1,cJ.zL hk,run_findKey hk k' _ _ h3,MapKept.run_setObj_map _ h1]
   ·rw[pQ _ _ _ hf];simp[h2]
  |some a0=>
   rw[hf]at h3;obtain⟨j,h3,h4,h5⟩:=h3;have h4':(es[j]?).map (·.key)=some (cJ.kv k'):=by simpa using h4
   refine⟨es.modify j fun e=>{e with key:=cJ.kv k',val:=g a},clock,?_,?_,hb.modify _ _ _⟩
   ·have hst:=cJ.stay (P:=P) k' w;simp[run_underlying hu,MapKept.run_getObj_map h1,cJ.zL hk,run_findKey hk k' _ _ h3,h4',hst,MapKept.run_setObj_map _ h1]
   ·rw[Array.toList_modify];exact h5 a
 obtain⟨es',clock',hrun,he⟩:=key;have hr:(execOp A.eval ⟨dst, .mapUpdate t x y v,ty,pos,aft,gu⟩).run P w= .ok .skip {w with heap:=w.heap.setIfInBounds b (.map es' clock')}:=by
  simp only[execOp,hS.ev hx,hS.ev hy,hS.ev hv,Sem.run_bind,hrun,Result.andThen_ok,Sem.run_pure]
 unfold Oper.wp;rw[hr];refine hK _ _ k _ _ (hS.put _ hd) ((hM.take hm).s6 (S:=fun i=>i=b) ⟨rfl,rfl,rfl,by simp,fun i hi hs=>?_⟩ gU (fun c hc _=>x8.2 hc) (uB.2 ⟨es',clock',?_,he⟩) (fun c hc=> .inl (x8.2 (x8.1 hc))))
 ·simp only[Array.getElem?_setIfInBounds];rw[if_neg (fun h=>hs h.symm)]
 ·simp only[Array.getElem?_setIfInBounds,if_pos hlt,if_true]
end
end
end Go.Proofs.YtofckcabpchcmaaGreatDoor
