/- A region that draws its order, over states that are said by lists: what only yields a value is taken first. Of whatever program. -/
import Derived.Test.YtjehflelkpacfaaGreatM03
import Derived.Deep.Quiet
import Derived.Carry
set_option linter.unusedVariables false
set_option linter.unusedSimpArgs false
set_option linter.unusedSectionVars false
set_option maxRecDepth 100000
namespace Go.Proofs.YtjehflelkpacfaaGreat
open Go
section
variable(P:Program)(ops:Array Oper)(Q:Exit→Act→World→Prop)(N e:Nat)(LT:List Chunk)
def RunT(fuel:Nat)(listed:Array Bool)(E:Env)(L:List Chunk):Prop:=∀a w,Sat N a E→Mem w L→wpAnyT P .any ops Q e (fun w=>Mem w LT) fuel listed a w
def PutOk:Prop:=∀c a w d v,Q (.panic c) (Act.put a d v) w→Q (.panic c) a w
def Good(listed:Array Bool)(L:List Chunk):Prop:=listed.getD e false=true∨∃F,Takes LT L F
end
section
variable{P:Program}{ops:Array Oper}{Q:Exit→Act→World→Prop}{N e:Nat}{LT:List Chunk}{E:Env}{L F:List Chunk}{fuel:Nat}{listed:Array Bool}
theorem Cod.draw{id:Nat}{l:List Oper}(e:Nat)(LT:List Chunk)(hm:P.follows .mixedOrders=true)(n:Nat)(hn:l.length=n)(h:RunT P l.toArray Q N e LT n (Array.replicate n false) E L):Cod P Q N (.region id l.toArray true) E L:=
 fun a w hs hM=>regionT e (fun w=>Mem w LT) hm (by subst hn;exact h a w.drew hs hM.drew)
theorem RunT.take0(i:Nat){d:Tmp}{op:Op}{ty:TypeId}{pos:String}{aft:Array Edge}{v:Value}(hi:ops[i]?=some ⟨some d,op,ty,pos,aft,none⟩)(hns:Region.noSelect ops=true)(hf:Region.free .any ops listed i=true)(hr:(Region.ready .any ops listed).contains i=true)(hie:Nat.beq i e=false)
  (hQ:PutOk Q) (hd:Nat.blt d N=true) (hy:Still P N ⟨some d,op,ty,pos,aft,none⟩ E [] v) (ht:Good e LT listed L) (h:RunT P ops Q N e LT fuel (listed.setIfInBounds i true) ((d,v)::E) L):RunT P ops Q N e LT (fuel+1) listed E L:=
 fun a w hs hM=>wpAnyT_first0 hi (Region.noSelect_spec hns) (fun c a w hq=>hQ c a w _ _ hq) fuel listed a w (Region.free_spec hi hf) (by simpa using hr) (fun h=>by subst h;simp at hie)
  (.inl ⟨by simp[Region.wanted],fun w' _=>hy a w' hs (Mem.nil w')⟩) (ht.imp id fun⟨F,t⟩=>(hM.takes t).left) (h _ w (hs.put (dst:=some d) v hd) hM)
theorem RunT.takeR(i:Nat){d:Tmp}{op:Op}{ty:TypeId}{pos:String}{aft:Array Edge}{v:Value}(hi:ops[i]?=some ⟨some d,op,ty,pos,aft,none⟩)(hns:Region.noSelect ops=true)(hf:Region.free .any ops listed i=true)(hr:(Region.ready .any ops listed).contains i=true)(hcl:closedB .any ops listed=true)(hw:waitsT .any ops i ops.size e=true)
  (hQ:PutOk Q) (hd:Nat.blt d N=true) (ht:Takes LT L F) (hy:Still P N ⟨some d,op,ty,pos,aft,none⟩ E LT v) (h:RunT P ops Q N e LT fuel (listed.setIfInBounds i true) ((d,v)::E) L):RunT P ops Q N e LT (fuel+1) listed E L:=
 fun a w hs hM=>wpAnyT_firstR hi (Region.noSelect_spec hns) (fun c a w hq=>hQ c a w _ _ hq) hw fuel listed a w (closedB_spec hcl) (Region.free_spec hi hf) (by simpa using hr)
  (.inl ⟨by simp[Region.wanted],fun w' hw'=>hy a w' hs hw'⟩) (hM.takes ht).left (h _ w (hs.put (dst:=some d) v hd) hM)
theorem RunT.takeN(i:Nat){d:Tmp}{op:Op}{ty:TypeId}{pos:String}{aft:Array Edge}{v:Value}(hi:ops[i]?=some ⟨some d,op,ty,pos,aft,none⟩)(hns:Region.noSelect ops=true)(hf:Region.free .any ops listed i=true)(hr:(Region.ready .any ops listed).contains i=true)(he:Nat.ble ops.size e=true)(hsz:Nat.beq listed.size ops.size=true)
  (hQ:PutOk Q) (hd:Nat.blt d N=true) (ht:Takes LT L F) (hy:Still P N ⟨some d,op,ty,pos,aft,none⟩ E LT v) (h:RunT P ops Q N e LT fuel (listed.setIfInBounds i true) ((d,v)::E) L):RunT P ops Q N e LT (fuel+1) listed E L:=
 fun a w hs hM=>wpAnyT_firstN hi (Region.noSelect_spec hns) (fun c a w hq=>hQ c a w _ _ hq) (Nat.le_of_ble_eq_true he) fuel listed a w (Nat.eq_of_beq_eq_true hsz) (Region.free_spec hi hf) (by simpa using hr)
  (.inl ⟨by simp[Region.wanted],fun w' hw'=>hy a w' hs hw'⟩) (hM.takes ht).left (h _ w (hs.put (dst:=some d) v hd) hM)
theorem RunT.part{d:Nat}(t:Bool)(hl:look E d=some (.bool t))(h1:t=true→RunT P ops Q N e LT fuel listed ((d, .bool true)::E) L)(h2:t=false→RunT P ops Q N e LT fuel listed ((d, .bool false)::E) L):RunT P ops Q N e LT fuel listed E L:=by
 intro a w hs hM
 cases t with
 |true=>exact h1 rfl a w (hs.sub' hl) hM
 |false=>exact h2 rfl a w (hs.sub' hl) hM
theorem RunT.one(i:Nat){o:Oper}(hr:Region.ready .any ops listed=[i])(ho:ops[i]?=some o)(hg:o.guard=none)
  (h:OpT P Q N o E L (fun E' L'=>Good e LT (listed.setIfInBounds i true) L'∧RunT P ops Q N e LT fuel (listed.setIfInBounds i true) E' L')):RunT P ops Q N e LT (fuel+1) listed E L:=
 fun a w hs hM=>oneT hr ho fun K' hK'=>by
  rw[if_pos (by simp[Region.wanted,hg])];exact h K' (fun E' L' hc a w hs hm=>hK' a w (hc.1.imp id fun⟨F,t⟩=>(hm.takes t).left) (hc.2 a w hs hm)) a w hs hM
theorem RunT.done(hr:Region.ready .any ops listed=[])(h:End Q N .normal E L):RunT P ops Q N e LT fuel listed E L:=fun a w hs hM=>doneT hr (h a w hs hM) fuel
theorem RunT.imp{L':List Chunk}(t:∀w,Mem w L→Mem w L')(h:RunT P ops Q N e LT fuel listed E L'):RunT P ops Q N e LT fuel listed E L:=fun a w hs hm=>h a w hs (t w hm)
theorem Run.part{l:List Oper}{d:Nat}(t:Bool)(hl:look E d=some (.bool t))(h1:t=true→Run P ops Q N l ((d, .bool true)::E) L)(h2:t=false→Run P ops Q N l ((d, .bool false)::E) L):Run P ops Q N l E L:=by
 intro a w hs hM
 cases t with
 |true=>exact h1 rfl a w (hs.sub' hl) hM
 |false=>exact h2 rfl a w (hs.sub' hl) hM
def RunQ(P:Program)(ops:Array Oper)(Q:Exit→Act→World→Prop)(N:Nat)(l:List Oper)(E:Env)(L:List Chunk):Prop:=
 ∀a,Sat N a E→wpQuiet P ops (fun w=>Mem w L) (fun a'=>∀w',Mem w' L→Q .normal a' w') l a
theorem Cod.quiet{id:Nat}{l:List Oper}(hm:P.follows .mixedOrders=true)(hB:Region.lexB .any l.toArray=true)(h:RunQ P l.toArray Q N l E L):Cod P Q N (.region id l.toArray true) E L:=
 fun a w hs hM=>wp_region_quiet (C:=fun w=>Mem w L) hm hB hM.drew (by simpa using h a hs)
theorem RunQ.nil(h:End Q N .normal E L):RunQ P ops Q N [] E L:=fun a hs=>wpQuiet_nil (fun w hM=>h a w hs hM)
theorem quiet_val{o:Oper}{a:Act}{v:Value}{C:World→Prop}{K:Act→Prop}(h:∀w,C w→(execOp a.eval o).run P w= .ok (.value v) w)(hn:K (a.put o.dst v)):o.quiet P a C K:=
 ⟨v,fun w hw=>by unfold Oper.quietAt;rw[h w hw];exact⟨rfl,rfl⟩,hn⟩
theorem RunQ.call{σ:Type}{l:List Oper}{dst:Option Tmp}{x:Operand}{args:List Operand}{tys:Array TypeId}{ty:TypeId}{pos:String}{aft:Array Edge}{f:FuncId}{vs:List Value}{cap:Array Value}
  {R:List Chunk} {post:σ→Prop} {val:σ→Value} {mem:σ→List Chunk} {v:Value} (hx:ev E x=some (.func (.func f) #[] cap)) (hv:Evs E args vs) (hc:callB P f=true) (hd:fitsB N dst=true)
  (spec:Fn P f (vs.toArray ++cap) R [] post val mem) (r:∀w,Reads w R L) (hval:∀s,post s→val s=v∧mem s=[]) (k:RunQ P ops Q N l (upd dst v E) L):
  RunQ P ops Q N (⟨dst, .call ⟨.value x,args.toArray,tys⟩,ty,pos,aft,none⟩::l) E L:=by
 intro a hs;refine wpQuiet_step fun K hK=>?_
 rw[if_pos (by simp[Region.wanted])];refine⟨v,fun w hm=>?_,hK _ (k _ (hs.put v hd))⟩;have hr:(execOp a.eval ⟨dst, .call ⟨.value x,args.toArray,tys⟩,ty,pos,aft,none⟩).run P w= .ok (.enter f (vs.toArray ++cap)) w:=by
  have e:args.toArray.map a.eval=vs.toArray:=by rw[←hs.evs hv];simp
  simp only[execOp,resolve,hs.ev hx,Deferred.ofValue,Sem.run_bind,Sem.run_pure,Result.andThen_ok,e,invoke];rw[run_callFunc hc];simp
 unfold Oper.quietAt;rw[hr];refine⟨rfl,(spec w (Mem.reads (pre:=[]) hm (r w))).mono ?_⟩;rintro e w' ⟨s,hp,rfl,hx,hm'⟩;refine⟨by rw[(hval s hp).1],?_⟩;have:=Mem.frame (pre:=[]) (F:=L) hm hm' hx;rwa [(hval s hp).2]at this
theorem RunQ.val{d:Tmp}{op:Op}{ty:TypeId}{pos:String}{aft:Array Edge}{l:List Oper}{v:Value}(h:Still P N ⟨some d,op,ty,pos,aft,none⟩ E L v)(hd:Nat.blt d N=true)(k:RunQ P ops Q N l ((d,v)::E) L):RunQ P ops Q N (⟨some d,op,ty,pos,aft,none⟩::l) E L:=by
 intro a hs;refine wpQuiet_step fun K hK=>?_
 rw[if_pos (by simp[Region.wanted])];exact quiet_val (fun w hM=>h a w hs hM) (hK _ (k _ (hs.put (dst:=some d) v hd)))
theorem RunQ.yes{d:Tmp}{op:Op}{ty:TypeId}{pos:String}{aft:Array Edge}{l:List Oper}{v:Value}{j:Nat}{want:Bool}(hgd:gd ops E j=some (.bool want))(h:Still P N ⟨some d,op,ty,pos,aft,some (j,want)⟩ E L v)(hd:Nat.blt d N=true)(k:RunQ P ops Q N l ((d,v)::E) L):RunQ P ops Q N (⟨some d,op,ty,pos,aft,some (j,want)⟩::l) E L:=by
 intro a hs;refine wpQuiet_step fun K hK=>?_
 rw[wanted_of hs rfl hgd,if_pos (by simp)];exact quiet_val (fun w hM=>h a w hs hM) (hK _ (k _ (hs.put (dst:=some d) v hd)))
theorem RunQ.no{d:Tmp}{op:Op}{ty:TypeId}{pos:String}{aft:Array Edge}{l:List Oper}{j:Nat}{want t:Bool}(hgd:gd ops E j=some (.bool t))(hne:(t==want)=false)(hd:Nat.blt d N=true)(k:RunQ P ops Q N l ((d,undef)::E) L):RunQ P ops Q N (⟨some d,op,ty,pos,aft,some (j,want)⟩::l) E L:=by
 intro a hs;refine wpQuiet_step fun K hK=>?_
 rw[wanted_of hs rfl hgd,hne];exact hK _ (k _ (hs.put (dst:=some d) undef hd))
theorem RunQ.undef{d:Tmp}{op:Op}{ty:TypeId}{pos:String}{aft:Array Edge}{l:List Oper}{j:Nat}{want:Bool}(hgd:gd ops E j=some undef)(hd:Nat.blt d N=true)(k:RunQ P ops Q N l ((d,undef)::E) L):RunQ P ops Q N (⟨some d,op,ty,pos,aft,some (j,want)⟩::l) E L:=by
 intro a hs;refine wpQuiet_step fun K hK=>?_
 have:Region.wanted ⟨some d,op,ty,pos,aft,some (j,want)⟩ (yielded ops a.tmps)=false:=by
  unfold Region.wanted;simp only[yielded_gd hs hgd,Go.undef];rfl
 rw[this];exact hK _ (k _ (hs.put (dst:=some d) Go.undef hd))
theorem RunQ.part{l:List Oper}{d:Nat}(t:Bool)(hl:look E d=some (.bool t))(h1:t=true→RunQ P ops Q N l ((d, .bool true)::E) L)(h2:t=false→RunQ P ops Q N l ((d, .bool false)::E) L):RunQ P ops Q N l E L:=by
 intro a hs
 cases t with
 |true=>exact h1 rfl a (hs.sub' hl)
 |false=>exact h2 rfl a (hs.sub' hl)
theorem Run.yes{o:Oper}{l:List Oper}{j:Nat}{want:Bool}(hg:o.guard=some (j,want))(hgd:gd ops E j=some (.bool want))(h:OpT P Q N o E L (fun E' L'=>Run P ops Q N l E' L')):Run P ops Q N (o::l) E L:=by
 intro a w hs hm;refine wpList_step fun K hK=>?_
 rw[wanted_of hs hg hgd,if_pos (by simp)];exact h K (fun E' L' hr a w hs hm=>hK a w (hr a w hs hm)) a w hs hm
theorem Run.no{d:Tmp}{op:Op}{ty:TypeId}{pos:String}{aft:Array Edge}{l:List Oper}{j:Nat}{want t:Bool}(hgd:gd ops E j=some (.bool t))(hne:(t==want)=false)(hd:Nat.blt d N=true)(k:Run P ops Q N l ((d,undef)::E) L):Run P ops Q N (⟨some d,op,ty,pos,aft,some (j,want)⟩::l) E L:=by
 intro a w hs hm;refine wpList_step fun K hK=>?_
 rw[wanted_of hs rfl hgd,hne];exact hK _ _ (k _ _ (hs.put (dst:=some d) undef hd) hm)
theorem Run.undef{d:Tmp}{op:Op}{ty:TypeId}{pos:String}{aft:Array Edge}{l:List Oper}{j:Nat}{want:Bool}(hgd:gd ops E j=some Go.undef)(hd:Nat.blt d N=true)(k:Run P ops Q N l ((d,Go.undef)::E) L):Run P ops Q N (⟨some d,op,ty,pos,aft,some (j,want)⟩::l) E L:=
 Run.guard_undef rfl hgd hd k
theorem End.cut{K:Act→World→Prop}{E':Env}{L' F:List Chunk}(hK:∀a w,Sat N a E'→Mem w L'→K a w)(hE:Sub E' E)(hL:Takes L' L F):End (Exit.then K Q) N .normal E L:=fun a w hs hm=>hK a w (hs.sub hE) (hm.takes hL).left
def slot(ops:Array Oper)(j:Nat):Option Nat:=match ops[j]? with
 |some o=>o.dst
 |none=>none
section
variable{d0 d:Tmp}{op:Op}{ty:TypeId}{pos:String}{aft:Array Edge}{l:List Oper}{j:Nat}{want t:Bool}
theorem Run.knowT(hj:slot ops j=some d)(hl:look E d=some (.bool t))(ht:t=true)(k:Run P ops Q N (⟨some d0,op,ty,pos,aft,some (j,want)⟩::l) ((d, .bool true)::E) L):Run P ops Q N (⟨some d0,op,ty,pos,aft,some (j,want)⟩::l) E L:=
 fun a w hs hM=>k a w (hs.sub' (ht▸hl)) hM
theorem Run.knowF(hj:slot ops j=some d)(hl:look E d=some (.bool t))(ht:t=false)(k:Run P ops Q N (⟨some d0,op,ty,pos,aft,some (j,want)⟩::l) ((d, .bool false)::E) L):Run P ops Q N (⟨some d0,op,ty,pos,aft,some (j,want)⟩::l) E L:=
 fun a w hs hM=>k a w (hs.sub' (ht▸hl)) hM
theorem Run.ask(hj:slot ops j=some d)(hl:look E d=some (.bool t))(h1:t=true→Run P ops Q N (⟨some d0,op,ty,pos,aft,some (j,want)⟩::l) ((d, .bool true)::E) L)(h2:t=false→Run P ops Q N (⟨some d0,op,ty,pos,aft,some (j,want)⟩::l) ((d, .bool false)::E) L):Run P ops Q N (⟨some d0,op,ty,pos,aft,some (j,want)⟩::l) E L:=
 Run.part t hl h1 h2
theorem RunQ.knowT(hj:slot ops j=some d)(hl:look E d=some (.bool t))(ht:t=true)(k:RunQ P ops Q N (⟨some d0,op,ty,pos,aft,some (j,want)⟩::l) ((d, .bool true)::E) L):RunQ P ops Q N (⟨some d0,op,ty,pos,aft,some (j,want)⟩::l) E L:=
 fun a hs=>k a (hs.sub' (ht▸hl))
theorem RunQ.knowF(hj:slot ops j=some d)(hl:look E d=some (.bool t))(ht:t=false)(k:RunQ P ops Q N (⟨some d0,op,ty,pos,aft,some (j,want)⟩::l) ((d, .bool false)::E) L):RunQ P ops Q N (⟨some d0,op,ty,pos,aft,some (j,want)⟩::l) E L:=
 fun a hs=>k a (hs.sub' (ht▸hl))
theorem RunQ.ask(hj:slot ops j=some d)(hl:look E d=some (.bool t))(h1:t=true→RunQ P ops Q N (⟨some d0,op,ty,pos,aft,some (j,want)⟩::l) ((d, .bool true)::E) L)(h2:t=false→RunQ P ops Q N (⟨some d0,op,ty,pos,aft,some (j,want)⟩::l) ((d, .bool false)::E) L):RunQ P ops Q N (⟨some d0,op,ty,pos,aft,some (j,want)⟩::l) E L:=
 RunQ.part t hl h1 h2
end
theorem PutOk.then_{K:Act→World→Prop}(h:PutOk Q):PutOk (Exit.then K Q):=h
theorem PutOk.block{id:Nat}(h:PutOk Q):PutOk (Exit.inBlock id Q):=h
theorem PutOk.body{fn:Func}{R:Ending→World→Prop}:PutOk (bodyPost P fn R):=fun c a w d v h=>by
 cases d<;>exact h
theorem Good.has(t:Takes LT L F):Good e LT listed L:= .inr ⟨F,t⟩
theorem Good.up(h:listed.getD e false=true):Good e LT listed L:= .inl h
end
def i64c(n:Int):List Value:=[.int .i64 n]
def u8c(c:Nat):List Value:=[.int .u8 (c:Int)]
def boolc(b:Bool):List Value:=[.bool b]
instance:Enc i64c:=⟨fun _=>rfl,by decide,fun a u hu=>by simp[i64c]at hu;subst hu;rfl⟩
instance:Enc u8c:=⟨fun _=>rfl,by decide,fun a u hu=>by simp[u8c]at hu;subst hu;rfl⟩
instance:Enc boolc:=⟨fun _=>rfl,by decide,fun a u hu=>by simp[boolc]at hu;subst hu;rfl⟩
theorem ix_succ(k:Nat):(k:Int)+1=((k+1:Nat):Int):=by omega
theorem not_true{b:Bool}(h:(!b)=true):b=false:=by cases b<;>simp_all
theorem Mem.keeps{w w':World}{cs:List Chunk}{S:Nat→Prop}(h:Mem w cs)(k:Keeps S w w')(hs:∀c∈cs,∀b,c.foot b→¬S b):Mem w' cs:=
 ⟨fun c hc=>c.stab k (hs c hc) (h.all c hc),h.sep⟩
@[irreducible] def bag (cs : List Chunk) : Chunk where
 holds w:=Mem w cs∧∀c∈cs,c.excl=true
 foot b:=∃c∈cs,c.foot b
 excl:=true
 stab k hs h:=⟨h.1.keeps k (fun c hc b hb=>hs b ⟨c,hc,hb⟩),h.2⟩
 lt h b hb:=by obtain⟨c,hc,hb⟩:=hb;exact c.lt (h.1.all c hc) b hb
theorem bag_holds{w:World}{cs:List Chunk}:(bag cs).holds w↔Mem w cs∧∀c∈cs,c.excl=true:=by unfold bag;exact Iff.rfl
theorem bag_foot{b:Nat}{cs:List Chunk}:(bag cs).foot b↔∃c∈cs,c.foot b:=by unfold bag;exact Iff.rfl
theorem bag_excl{cs:List Chunk}:(bag cs).excl=true:=by unfold bag;rfl
theorem Mem.pack{w:World}{cs L:List Chunk}(h:Mem w (cs ++L))(hx:∀c∈cs,c.excl=true):Mem w (bag cs::L):=by
 have hsep:=List.pairwise_append.1 h.sep;refine⟨fun c hc=>?_,List.pairwise_cons.2 ⟨fun d hd _ b hb hb'=>?_,hsep.2.1⟩⟩
 ·rcases List.mem_cons.1 hc with rfl|hc
  ·exact bag_holds.2 ⟨h.left,hx⟩
  ·exact h.all c (List.mem_append_right _ hc)
 ·obtain⟨c,hc,hcb⟩:=bag_foot.1 hb;exact hsep.2.2 c hc d hd (.inl (hx c hc)) b hcb hb'
theorem Mem.unpack{w:World}{cs L:List Chunk}(h:Mem w (bag cs::L)):Mem w (cs ++L):=by
 have hb:=bag_holds.1 (h.all (bag cs) (by simp));have hp:=List.pairwise_cons.1 h.sep;refine⟨fun c hc=>?_,List.pairwise_append.2 ⟨hb.1.sep,hp.2,fun c hc d hd _ b hcb hdb=>?_⟩⟩
 ·rcases List.mem_append.1 hc with hc|hc
  ·exact hb.1.all c hc
  ·exact h.all c (by simp[hc])
 ·exact hp.1 d hd (.inl bag_excl) b (bag_foot.2 ⟨c,hc,hcb⟩) hdb
theorem Mem.bagNil{w:World}{L:List Chunk}(h:Mem w L):Mem w (bag []::L):=Mem.pack (cs:=[]) h (by simp)
theorem Mem.bagAdd{w:World}{cs ds L L' F:List Chunk}(h:Mem w L)(t:Take (bag cs) L L')(t2:Takes ds L' F)(hx:∀c∈ds,c.excl=true):Mem w (bag (cs ++ds)::F):=by
 have h1:=(h.take t).unpack;have hb:=bag_holds.1 (h.has t);have h2:Mem w (cs ++(ds ++F)):=h1.perm (List.Perm.append_left _ t2.perm);rw[←List.append_assoc]at h2;exact h2.pack (fun c hc=>(List.mem_append.1 hc).elim (hb.2 c) (hx c))
theorem Mem.dup{w:World}{L L':List Chunk}{c c':Chunk}(h:Mem w L)(t:Take c L L')(hx:c'.excl=false)(hc:c'.holds w)(hf:∀b,c'.foot b→c.foot b)(hcx:c.excl=false):Mem w (c'::L):=by
 refine⟨fun d hd=>?_,List.pairwise_cons.2 ⟨fun d hd hdx b hb hb'=>?_,h.sep⟩⟩
 ·rcases List.mem_cons.1 hd with rfl|hd
  ·exact hc
  ·exact h.all d hd
 ·have hdx:d.excl=true:=by rcases hdx with h|h;rw[hx]at h;cases h;exact h
  have h2:=h.take t;have hd2:d∈c::L':=t.perm.mem_iff.1 hd;rcases List.mem_cons.1 hd2 with rfl|hd2
  ·rw[hcx]at hdx;cases hdx
  ·exact(List.pairwise_cons.1 h2.sep).1 d hd2 (.inr hdx) b (hf b hb) hb'
section
variable{α:Type}{iα:Inhabited α}{ao:Option Addr}{n cap:Nat}{e:TypeId}{f:α→List Value}{ef:Enc f}{l:List α}
theorem Row.sub [Enc f]{w:World}{lo hi:Nat}(h:Row w (.slice ao n cap) (sz f) n (l.flatMap f))(hln:l.length=n)(h1:lo≤hi)(h2:hi≤n):
  Row w (.slice (if cap=lo then ao else ao.map (·.add (lo*sz f))) (hi-lo) (cap-lo)) (sz f) (hi-lo) (((l.take hi).drop lo).flatMap f):=by
 obtain⟨g1,g2,ao',cap',g3,g4,g5⟩:=h;simp only[Value.slice.injEq]at g3;obtain⟨rfl, -,rfl⟩:=g3;refine⟨by rw[flatMap_len];simp;congr 1;omega,by omega,_,_,rfl,by omega,fun hn=>?_⟩;obtain⟨b,o,rfl,hc⟩:=g5 (by omega);rw[if_neg (by omega)];refine⟨b,o+lo*sz f,by simp[Addr.add_lit'],fun j hj=>?_⟩;have hmul:(hi-lo)*sz f+lo*sz f=hi*sz f:=by rw[←Nat.add_mul];congr 1;omega
 have hmul2:hi*sz f≤n*sz f:=Nat.mul_le_mul_right _ h2;rw[←flatMap_drop,←flatMap_take,List.getElem?_drop,List.getElem?_take,if_pos (by omega),Nat.add_assoc];exact hc _ (by omega)
theorem own_cut{lo:Nat}{m c:Nat}{k:Nat}(h:(Value.slice (if cap=lo then ao else ao.map (·.add (lo*m))) c (cap-lo)).ownBlock=some k)(n':Nat):(Value.slice ao n' cap).ownBlock=some k:=by
 cases ao with
 |none=>simp[Value.ownBlock]at h
 |some a0=>
  by_cases hc':cap=lo
  ·rw[if_pos hc']at h;exact h
  ·rw[if_neg hc']at h;simp only[Value.ownBlock,Option.map_some,Option.some.injEq]at h⊢;rw[←h];unfold Addr.add
   split<;>rfl
theorem At.sub [Enc f]{w0:World}{S:Nat→Prop}{lo hi:Nat}(h:At w0 S ao n cap f l)(h1:lo≤hi)(h2:hi≤n):At w0 S (if cap=lo then ao else ao.map (·.add (lo*sz f))) (hi-lo) (cap-lo) f ((l.take hi).drop lo):=
 ⟨⟨Row.sub h.1.1 h.1.2 h1 h2,by have:=h.1.2;simp;omega⟩,fun b hb hn=>h.2 b (own_cut hb n) (by omega)⟩
variable{P:Program} [Tabbed P]{Q:Exit→Act→World→Prop}{N:Nat}{E:Env}{L L':List Chunk}
variable{dst:Option Tmp}{ty:TypeId}{pos:String}{aft:Array Edge}{g:Option (Nat×Bool)}
theorem OpT.cutR{t:TypeId}{s' b' s2 b2 lo hi:Nat}{d2:TyD}{z' z2:List Value}{x:Operand}{ol oh:Option Operand}{C:Env→List Chunk→Prop}(hx:ev E x=some (.slice ao n cap))(ht:tyOf P t=some ⟨.slice e,s',b',z'⟩)(he:tyOf P e=some ⟨d2,s2,b2,z2⟩)
  (hm:Take (rd ao n cap f l) L L') (hs2:s2=sz f) (hb:Bnd E n ol oh lo hi) (h1:lo≤hi) (h2:hi≤n) (hd:fitsB N dst=true)
  (k:∀ao' cap',C (upd dst (.slice ao' (hi-lo) cap') E) (rd ao' (hi-lo) cap' f ((l.take hi).drop lo)::L)):OpT P Q N ⟨dst, .slice t x ol oh none,ty,pos,aft,g⟩ E L C:=fun K hK A w hS hM=>by
 obtain⟨hrow,hln⟩:=rd_holds.1 (hM.has hm);have hcap:n≤cap:=by
  obtain⟨-, -,ao',cap',g2,g3, -⟩:=hrow;simp only[Value.slice.injEq]at g2;obtain⟨-, -,rfl⟩:=g2;exact g3
 unfold Oper.wp;rw[run_cut hS hx ht he hb h1 (by omega) w];subst hs2;refine hK _ _ (k _ _) _ _ (hS.put _ hd) (hM.dup hm rd_excl (rd_holds.2 ⟨Row.sub hrow hln h1 h2,by simp;omega⟩) (fun c hc=>rd_foot.2 ⟨own_cut (rd_foot.1 hc).1 n,by have:=(rd_foot.1 hc).2;omega⟩) rd_excl)
theorem OpT.cutR0{t:TypeId}{s' b' s2 b2 hi:Nat}{d2:TyD}{z' z2:List Value}{x:Operand}{oh:Option Operand}{C:Env→List Chunk→Prop}(hx:ev E x=some (.slice ao n cap))(ht:tyOf P t=some ⟨.slice e,s',b',z'⟩)(he:tyOf P e=some ⟨d2,s2,b2,z2⟩)
  (hm:Take (rd ao n cap f l) L L') (hs2:s2=sz f) (hb:Bnd E n none oh 0 hi) (h2:hi≤n) (hd:fitsB N dst=true)
  (k:∀ao' cap',C (upd dst (.slice ao' hi cap') E) (rd ao' hi cap' f (l.take hi)::L)):OpT P Q N ⟨dst, .slice t x none oh none,ty,pos,aft,g⟩ E L C:=
 OpT.cutR hx ht he hm hs2 hb (Nat.zero_le _) h2 hd (fun ao' cap'=>by simpa using k ao' cap')
theorem OpT.cutA0{t:TypeId}{s' b' s2 b2 hi:Nat}{d2:TyD}{z' z2:List Value}{x:Operand}{oh:Option Operand}{C:Env→List Chunk→Prop}(hx:ev E x=some (.slice ao n cap))(ht:tyOf P t=some ⟨.slice e,s',b',z'⟩)(he:tyOf P e=some ⟨d2,s2,b2,z2⟩)
  (hm:Take (arr ao n cap e f l) L L') (hs2:s2=sz f) (hb:Bnd E n none oh 0 hi) (h2:hi≤n) (hd:fitsB N dst=true)
  (k:∀ao' cap',C (upd dst (.slice ao' hi cap') E) (arr ao' hi cap' e f (l.take hi)::L')):OpT P Q N ⟨dst, .slice t x none oh none,ty,pos,aft,g⟩ E L C:=
 OpT.cutA hx ht he hm hs2 hb (Nat.zero_le _) h2 hd (fun ao' cap'=>by simpa using k ao' cap')
theorem OpT.cutA1{t:TypeId}{s' b' s2 b2 lo:Nat}{d2:TyD}{z' z2:List Value}{x:Operand}{ol:Option Operand}{C:Env→List Chunk→Prop}(hx:ev E x=some (.slice ao n cap))(ht:tyOf P t=some ⟨.slice e,s',b',z'⟩)(he:tyOf P e=some ⟨d2,s2,b2,z2⟩)
  (hm:Take (arr ao n cap e f l) L L') (hs2:s2=sz f) (hb:Bnd E n ol none lo n) (h2:lo≤n) (hn:l.length=n) (hd:fitsB N dst=true)
  (k:∀ao' cap',C (upd dst (.slice ao' (n-lo) cap') E) (arr ao' (n-lo) cap' e f (l.drop lo)::L')):OpT P Q N ⟨dst, .slice t x ol none none,ty,pos,aft,g⟩ E L C:=
 OpT.cutA hx ht he hm hs2 hb h2 (Nat.le_refl _) hd (fun ao' cap'=>by have:=k ao' cap';rwa [List.take_of_length_le (by omega)])
end
section
variable{P:Program} [Tabbed P]{N:Nat}{E:Env}{L L' F:List Chunk}{σ:Type}{fn:Func}{post:σ→Prop}{val:σ→Value}{mem:σ→List Chunk}{w0:World}{S:Nat→Prop}
theorem run_cell{w:World}{t:TypeId}{b s' b':Nat}{bt:TypeId}{fs:List (Nat×TypeId)}{z' cs:List Value}(ht:tyOf P t=some ⟨.struct fs,s',b',z'⟩)(hb:Blk w b cs.toArray bt)(hl:cs.length=s'):(loadVar t ⟨b,0,none⟩).run P w= .ok (.agg cs.toArray) w:=by
 obtain⟨l,h1, -⟩:=(tyOk ht).struct;obtain⟨x',z,h3,h4, -⟩:=(tyOk ht).info;exact run_loadVar_mid (P:=P) w b 0 t cs _ (fun j v hj=>by rw[hb.cell];simpa using hj) h1 rfl (by rw[h3];simp[h4,hl])
theorem End.imp{Q:Exit→Act→World→Prop}{e:Exit}{L':List Chunk}(t:∀w,Mem w L→Mem w L')(h:End Q N e E L'):End Q N e E L:=fun a w hs hm=>h a w hs (t w hm)
theorem End.doneC2{t u:Tmp}{ty bt:TypeId}{b s' b':Nat}{fs:List (Nat×TypeId)}{z' cs:List Value}{v:Value}(x:σ)(hr:fn.results= #[.cell t ty, .tmp u])(hv:look E t=some (.pointer (some ⟨b,0,none⟩)))(ht:tyOf P ty=some ⟨.struct fs,s',b',z'⟩)
  (hm:Take (blk b cs bt) L L') (hl:cs.length=s') (hu:look E u=some v) (he:val x= .tuple #[.agg cs.toArray,v]) (hp:post x) (hx:∀c∈mem x,c.excl=true) (hF:Takes (old w0 S::mem x) L F):End (bodyPost P fn (Owes post val mem w0 S)) N .ret E L:=fun a w hs hM=>by
 have hb:=blk_holds.1 (hM.has hm);have h1:=hs.slot t _ hv;have h2:=hs.slot u _ hu;refine bodyPost_ret (v:= .tuple #[.agg cs.toArray,v]) ?_ hs.defs ⟨x,hp,by rw[he],hx,(hM.takes hF).left⟩;simp[results,hr,h1,h2,asAddr,run_cell ht hb hl]
theorem End.doneC1{t:Tmp}{ty bt:TypeId}{b s' b':Nat}{fs:List (Nat×TypeId)}{z' cs:List Value}(x:σ)(hr:fn.results= #[.cell t ty])(hv:look E t=some (.pointer (some ⟨b,0,none⟩)))(ht:tyOf P ty=some ⟨.struct fs,s',b',z'⟩)
  (hm:Take (blk b cs bt) L L') (hl:cs.length=s') (he:val x= .agg cs.toArray) (hp:post x) (hx:∀c∈mem x,c.excl=true) (hF:Takes (old w0 S::mem x) L F):End (bodyPost P fn (Owes post val mem w0 S)) N .ret E L:=fun a w hs hM=>by
 have hb:=blk_holds.1 (hM.has hm);have h1:=hs.slot t _ hv;refine bodyPost_ret (v:= .agg cs.toArray) ?_ hs.defs ⟨x,hp,by rw[he],hx,(hM.takes hF).left⟩;simp[results,hr,h1,asAddr,run_cell ht hb hl]
end
theorem End.some{Q:Exit→Act→World→Prop}{N:Nat}{E:Env}{L F:List Chunk}{K:Act→World→Prop}{σ:Type}{ok:σ→Prop}{inv:σ→Env}{mem:σ→List Chunk}(hK:∀s,ok s→∀a w,Sat N a (inv s)→Mem w (mem s)→K a w)(s:σ)(h1:ok s)
  (hE:Sub (inv s) E) (hL:Takes (mem s) L F):End (Exit.then K Q) N .normal E L:=fun a w hs hm=>hK s h1 a w (hs.sub hE) (hm.takes hL).left
theorem End.round0{Q:Exit→Act→World→Prop}{N:Nat}{E:Env}{L F':List Chunk}{σ:Type}{K:Act→World→Prop}{ok:σ→Prop}{inv:σ→Env}{mem:σ→List Chunk}{μ:σ→Nat}{m:Nat}
  (hK:∀s',ok s'→μ s'<m→∀a w,Sat N a (inv s')→Mem w (mem s' ++[])→K a w) (s:σ) (h1:ok s) (h2:μ s<m) (hE:Sub (inv s) E) (hL:Takes (mem s) L F'):End (Exit.then K Q) N .normal E L:=
 fun a w hs hm=>hK s h1 h2 a w (hs.sub hE) (by simpa using(hm.takes hL).left)
def mfind{α:Type}:List (Int×α)→Int→Option α
 |[],_=>none
 |(q,a)::r,k=>if q=k then some a else mfind r k
def mput{α:Type}:List (Int×α)→Int→α→List (Int×α)
 |[],k,a=>[(k,a)]
 |(q,b)::r,k,a=>if q=k then(q,a)::r else(q,b)::mput r k a
section
variable{α:Type}(g:α→Value)
theorem findNow_ints(k:Int):∀(es:List MapEntry) (l:List (Int×α)) (i:Nat),es.map (fun e=>(e.key,e.val))=l.map (fun p=>(Value.int .i64 p.1,g p.2))→
  match mfind l k with
  |none=>Instr.findNow (.int .i64) (.int .i64 k) es i=some none
  |some a=>∃j,Instr.findNow (.int .i64) (.int .i64 k) es i=some (some (i+j,g a))∧(es[j]?).map (·.key)=some (.int .i64 k)∧
    ∀a',(es.modify j (fun e=>{e with key:= .int .i64 k,val:=g a'})).map (fun e=>(e.key,e.val))=(mput l k a').map (fun p=>(Value.int .i64 p.1,g p.2))
 |[],[],i,_=>by simp[mfind,Instr.findNow]
 |[],_::_,i,h=>by simp at h
 |_::_,[],i,h=>by simp at h
 |e::es,(q,b)::l,i,h=>by
  simp only[List.map_cons,List.cons.injEq,Prod.mk.injEq]at h;obtain⟨⟨h1,h2⟩,h3⟩:=h;simp only[mfind]
  by_cases hq:q=k
  ·subst hq;simp only[if_pos rfl];refine⟨0,by simp[Instr.findNow,Instr.sameNow,h1,h2],by simp[h1],fun a'=>?_⟩;simp only[List.modify_zero_cons,List.map_cons,mput,if_true,h3]
  ·rw[if_neg hq];have ih:=findNow_ints k es l (i+1) h3;have hne:(k==q)=false:=by rw[beq_eq_false_iff_ne];exact fun h=>hq h.symm
   cases hm:mfind l k with
   |none=>
    rw[hm]at ih;simp only at ih⊢;simp[Instr.findNow,Instr.sameNow,h1,hne,ih]
   |some a=>
    rw[hm]at ih;simp only at ih⊢;obtain⟨j,i1,i2,i3⟩:=ih;refine⟨j+1,?_,by simpa using i2,fun a'=>?_⟩
    ·simp[Instr.findNow,Instr.sameNow,h1,hne,i1];omega
    ·rw[List.modify_succ_cons,List.map_cons,i3 a'];simp[mput,hq,h1,h2]
theorem mput_new(k:Int)(a:α):∀l:List (Int×α),mfind l k=none→mput l k a=l ++[(k,a)]
 |[],_=>rfl
 |(q,b)::r,h=>by
  unfold mfind at h
  by_cases hq:q=k
  ·rw[if_pos hq]at h;cases h
  ·rw[if_neg hq]at h;simp[mput,hq,mput_new k a r h]
end
section
variable{α:Type}
@[irreducible] def mp (b : Nat) (g : α → Value) (l : List (Int × α)) : Chunk where
 holds w:=∃es clock,w.heap[b]?=some (.map es clock)∧es.toList.map (fun e=>(e.key,e.val))=l.map (fun p=>(Value.int .i64 p.1,g p.2))
 foot k:=k=b
 excl:=true
 stab k hs h:=by
  obtain⟨es,clock,h1,h2⟩:=h;exact⟨es,clock,k.at h1 (hs _ rfl),h2⟩
 lt h k hk:=by
  obtain⟨es,clock,h1,h2⟩:=h;subst hk;exact(Array.getElem?_eq_some_iff.1 h1).1
variable{b:Nat}{g:α→Value}{l:List (Int×α)}{w:World}
theorem mp_holds:(mp b g l).holds w↔∃es clock,w.heap[b]?=some (.map es clock)∧es.toList.map (fun e=>(e.key,e.val))=l.map (fun p=>(Value.int .i64 p.1,g p.2)):=by unfold mp;exact Iff.rfl
theorem mp_foot{k:Nat}:(mp b g l).foot k↔k=b:=by unfold mp;exact Iff.rfl
theorem mp_excl:(mp b g l).excl=true:=by unfold mp;rfl
theorem run_checkInt{P:Program}{kt:TypeId}(hk:P.underlying kt=some (.int .i64))(em:Bool)(k:Int)(w:World):(Instr.checkKey em 10000 kt (.int .i64 k)).run P w= .ok () w:=by
 rw[show(10000:Nat)=9999+1 from rfl];unfold Instr.checkKey;simp[run_underlying hk]
theorem run_findInt{P:Program}{kt:TypeId}(hk:P.underlying kt=some (.int .i64))(k:Int)(es:List MapEntry)(r)(h:Instr.findNow (.int .i64) (.int .i64 k) es 0=some r)(w:World):(Instr.findKey kt (.int .i64 k) es).run P w= .ok r w:=by
 unfold Instr.findKey;simp[run_underlying hk,h]
variable{P:Program} [Tabbed P]{Q:Exit→Act→World→Prop}{N:Nat}{E:Env}{L L':List Chunk}
variable{dst:Option Tmp}{ty:TypeId}{pos:String}{aft:Array Edge}{gu:Option (Nat×Bool)}
variable{t kt et s1 b1 s2 b2:Nat}{z1 z2:List Value}
theorem OpT.makeMap{C:Env→List Chunk→Prop}(g:α→Value)(hd:fitsB N dst=true)
  (k:∀b,C (upd dst (.map (some b)) E) (mp b g []::L)):OpT P Q N ⟨dst, .makeMap t none,ty,pos,aft,gu⟩ E L C:=fun K hK A w hS hM=>by
 have hr:(execOp A.eval ⟨dst, .makeMap t none,ty,pos,aft,gu⟩).run P w= .ok (.value (.map (some w.heap.size))) (w.alloc (.map #[] 0)):=by
  simp only[execOp,Sem.run_bind,Option.map_none,RowKit.run_makeMap];rfl
 unfold Oper.wp;rw[hr];refine hK _ _ (k w.heap.size) _ _ (hS.put _ hd) (hM.add ((Keeps.refl _ _).alloc _) (mp_holds.2 ⟨#[],0,?_,rfl⟩) (fun b hb=>by rw[mp_foot.1 hb];exact Nat.le_refl _));exact heap_alloc_new w _
theorem run_lookupMp{ok:Bool}{k:Int}(ht:tyOf P t=some ⟨.map kt et,s1,b1,z1⟩)(hkt:tyOf P kt=some ⟨.int .i64,s2,b2,z2⟩)(z:Value)(hz:(zeroValue et).run P w= .ok z w)(hm:(mp b g l).holds w):
  (Instr.lookup t (.map (some b)) (.int .i64 k) ok).run P w= .ok (if ok then .tuple #[((mfind l k).map g).getD z, .bool (mfind l k).isSome]else((mfind l k).map g).getD z) w:=by
 obtain⟨es,clock,h1,h2⟩:=mp_holds.1 hm;have h3:=findNow_ints g k es.toList l 0 h2;have hu:=(tyOk ht).map;have hk:=(tyOk hkt).int;unfold Instr.lookup
 cases hf:mfind l k with
 |none=>
  rw[hf]at h3;simp only at h3;simp[run_underlying hu,MapKept.run_getObj_map h1,run_checkInt hk,run_findInt hk k _ _ h3,hz]
 |some a=>
  rw[hf]at h3;obtain⟨j,h3, -⟩:=h3;simp[run_underlying hu,MapKept.run_getObj_map h1,run_checkInt hk,run_findInt hk k _ _ h3]
theorem Still.lookup{x y:Operand}{k:Int}{ok:Bool}{z:Value}(hx:ev E x=some (.map (some b)))(hy:ev E y=some (.int .i64 k))(ht:tyOf P t=some ⟨.map kt et,s1,b1,z1⟩)(hkt:tyOf P kt=some ⟨.int .i64,s2,b2,z2⟩)
  (hz:(P.info? et).map (·.zero)=some (some z)) (hm:Take (mp b g l) L L'):
  Still P N ⟨dst, .lookup t x y ok,ty,pos,aft,gu⟩ E L (if ok then .tuple #[((mfind l k).map g).getD z, .bool (mfind l k).isSome]else((mfind l k).map g).getD z):=fun A w hS hM=>by
 have hz':(zeroValue et).run P w= .ok z w:=by
  cases hi:P.info? et with
  |none=>rw[hi]at hz;cases hz
  |some i=>rw[hi]at hz;simp at hz;simp[zeroValue,typeInfo,hi,hz]
 simp only[execOp,hS.ev hx,hS.ev hy,Sem.run_bind,run_lookupMp ht hkt z hz' (hM.has hm),Result.andThen_ok,Sem.run_pure]
theorem Still.lookupOk{x y:Operand}{k:Int}{z:Value}(hx:ev E x=some (.map (some b)))(hy:ev E y=some (.int .i64 k))(ht:tyOf P t=some ⟨.map kt et,s1,b1,z1⟩)(hkt:tyOf P kt=some ⟨.int .i64,s2,b2,z2⟩)
  (hz:(P.info? et).map (·.zero)=some (some z)) (hm:Take (mp b g l) L L'):
  Still P N ⟨dst, .lookup t x y true,ty,pos,aft,gu⟩ E L (.tuple #[((mfind l k).map g).getD z, .bool (mfind l k).isSome]):=Still.lookup (ok:=true) hx hy ht hkt hz hm
theorem Still.lookup1{x y:Operand}{k:Int}{z:Value}(hx:ev E x=some (.map (some b)))(hy:ev E y=some (.int .i64 k))(ht:tyOf P t=some ⟨.map kt et,s1,b1,z1⟩)(hkt:tyOf P kt=some ⟨.int .i64,s2,b2,z2⟩)
  (hz:(P.info? et).map (·.zero)=some (some z)) (hm:Take (mp b g l) L L'):
  Still P N ⟨dst, .lookup t x y false,ty,pos,aft,gu⟩ E L (((mfind l k).map g).getD z):=Still.lookup (ok:=false) hx hy ht hkt hz hm
theorem Still.lookupOkN{x y:Operand}{k:Int}{z:Value}(hx:ev E x=some (.map (some b)))(hy:ev E y=some (.int .i64 k))(ht:tyOf P t=some ⟨.map kt et,s1,b1,z1⟩)(hkt:tyOf P kt=some ⟨.int .i64,s2,b2,z2⟩)
  (hz:(P.info? et).map (·.zero)=some (some z)) (hm:Take (mp b g l) L L') (hf:mfind l k=none):Still P N ⟨dst, .lookup t x y true,ty,pos,aft,gu⟩ E L (.tuple #[z, .bool false]):=by
 have:=Still.lookupOk (N:=N) (dst:=dst) (ty:=ty) (pos:=pos) (aft:=aft) (gu:=gu) hx hy ht hkt hz hm;rw[hf]at this;exact this
theorem Still.lookupOkS{x y:Operand}{k:Int}{z:Value}{a:α}(hx:ev E x=some (.map (some b)))(hy:ev E y=some (.int .i64 k))(ht:tyOf P t=some ⟨.map kt et,s1,b1,z1⟩)(hkt:tyOf P kt=some ⟨.int .i64,s2,b2,z2⟩)
  (hz:(P.info? et).map (·.zero)=some (some z)) (hm:Take (mp b g l) L L') (hf:mfind l k=some a):Still P N ⟨dst, .lookup t x y true,ty,pos,aft,gu⟩ E L (.tuple #[g a, .bool true]):=by
 have:=Still.lookupOk (N:=N) (dst:=dst) (ty:=ty) (pos:=pos) (aft:=aft) (gu:=gu) hx hy ht hkt hz hm;rw[hf]at this;exact this
theorem Still.lookup1N{x y:Operand}{k:Int}{z:Value}(hx:ev E x=some (.map (some b)))(hy:ev E y=some (.int .i64 k))(ht:tyOf P t=some ⟨.map kt et,s1,b1,z1⟩)(hkt:tyOf P kt=some ⟨.int .i64,s2,b2,z2⟩)
  (hz:(P.info? et).map (·.zero)=some (some z)) (hm:Take (mp b g l) L L') (hf:mfind l k=none):Still P N ⟨dst, .lookup t x y false,ty,pos,aft,gu⟩ E L z:=by
 have:=Still.lookup1 (N:=N) (dst:=dst) (ty:=ty) (pos:=pos) (aft:=aft) (gu:=gu) hx hy ht hkt hz hm;rw[hf]at this;exact this
theorem Still.lookup1S{x y:Operand}{k:Int}{z:Value}{a:α}(hx:ev E x=some (.map (some b)))(hy:ev E y=some (.int .i64 k))(ht:tyOf P t=some ⟨.map kt et,s1,b1,z1⟩)(hkt:tyOf P kt=some ⟨.int .i64,s2,b2,z2⟩)
  (hz:(P.info? et).map (·.zero)=some (some z)) (hm:Take (mp b g l) L L') (hf:mfind l k=some a):Still P N ⟨dst, .lookup t x y false,ty,pos,aft,gu⟩ E L (g a):=by
 have:=Still.lookup1 (N:=N) (dst:=dst) (ty:=ty) (pos:=pos) (aft:=aft) (gu:=gu) hx hy ht hkt hz hm;rw[hf]at this;exact this
theorem OpT.mapUpdate{x y v:Operand}{key:Int}{a:α}{C:Env→List Chunk→Prop}(hx:ev E x=some (.map (some b)))(hy:ev E y=some (.int .i64 key))(hv:ev E v=some (g a))
  (ht:tyOf P t=some ⟨.map kt et,s1,b1,z1⟩) (hkt:tyOf P kt=some ⟨.int .i64,s2,b2,z2⟩) (hm:Take (mp b g l) L L') (hd:fitsB N dst=true)
  (k:C (upd dst undef E) (mp b g (mput l key a)::L')):OpT P Q N ⟨dst, .mapUpdate t x y v,ty,pos,aft,gu⟩ E L C:=fun K hK A w hS hM=>by
 obtain⟨k',rfl⟩:∃k',k'=key:=⟨_,rfl⟩;obtain⟨es,clock,h1,h2⟩:=mp_holds.1 (hM.has hm);have h3:=findNow_ints g k' es.toList l 0 h2;have hu:=(tyOk ht).map;have hk:=(tyOk hkt).int;have hlt:b<w.heap.size:=(Array.getElem?_eq_some_iff.1 h1).1;have key:∃es' clock',(Instr.mapUpdate t (.map (some b)) (.int .i64 k') (g a)).run P w= .ok () {w with heap:=w.heap.setIfInBounds b (.map es' clock')}∧es'.toList.map (fun e=>(e.key,e.val))=(mput l k' a).map (fun p=>(Value.int .i64 p.1,g p.2)):=by
  unfold Instr.mapUpdate
  cases hf:mfind l k' with
  |none=>
   rw[hf]at h3;simp only at h3;refine⟨es.push {key:= .int .i64 k',val:=g a,born:=clock},clock+1,?_,?_⟩
   ·simp[run_underlying hu,MapKept.run_getObj_map h1,run_checkInt hk,run_findInt hk k' _ _ h3,MapKept.run_setObj_map _ h1]
   ·rw[mput_new _ _ _ hf];simp[h2]
  |some a0=>
   rw[hf]at h3;obtain⟨j,h3,h4,h5⟩:=h3;have h4':(es[j]?).map (·.key)=some (.int .i64 k'):=by simpa using h4
   refine⟨es.modify j fun e=>{e with key:= .int .i64 k',val:=g a},clock,?_,?_⟩
   ·have hst:(Instr.keyThatStays (.int .i64 k') (.int .i64 k')).run P w= .ok (.int .i64 k') w:=by
     unfold Instr.keyThatStays;rw[show(10000:Nat)=9999+1 from rfl];simp[Instr.sameBits]
    simp[run_underlying hu,MapKept.run_getObj_map h1,run_checkInt hk,run_findInt hk k' _ _ h3,h4',hst,MapKept.run_setObj_map _ h1]
   ·rw[Array.toList_modify];exact h5 a
 obtain⟨es',clock',hrun,he⟩:=key;have hr:(execOp A.eval ⟨dst, .mapUpdate t x y v,ty,pos,aft,gu⟩).run P w= .ok .skip {w with heap:=w.heap.setIfInBounds b (.map es' clock')}:=by
  simp only[execOp,hS.ev hx,hS.ev hy,hS.ev hv,Sem.run_bind,hrun,Result.andThen_ok,Sem.run_pure]
 unfold Oper.wp;rw[hr];refine hK _ _ k _ _ (hS.put _ hd) ((hM.take hm).turn (S:=fun i=>i=b) ⟨rfl,rfl,rfl,by simp,fun i hi hs=>?_⟩ mp_excl (fun c hc _=>mp_foot.2 hc) (mp_holds.2 ⟨es',clock',?_,he⟩) (fun c hc=> .inl (mp_foot.2 (mp_foot.1 hc))))
 ·simp only[Array.getElem?_setIfInBounds];rw[if_neg (fun h=>hs h.symm)]
 ·simp only[Array.getElem?_setIfInBounds,if_pos hlt,if_true]
end
end Go.Proofs.YtjehflelkpacfaaGreat
