/- The operations over slices, and those that make or change memory, over states that are said by lists. Of whatever program whose types a table says. -/
import Derived.Test.YtofckcabpchcmaaGreatDoorM02
import Derived.Great.BuildSlice
import Derived.Laws.MakeOwn
set_option linter.unusedVariables false
set_option linter.unusedSimpArgs false
set_option linter.unusedSectionVars false
set_option maxRecDepth 100000
namespace Go.Proofs.YtofckcabpchcmaaGreatDoor
section
open Go
@[irreducible] def place (m : Nat) (ao : Option Addr) (i off : Nat) : Option Addr := ao.map fun a => a.add (i * m + off)
theorem vS{m i off b o:Nat}:place m (some ⟨b,o,none⟩) i off=some ⟨b,o+(i*m+off),none⟩:=by unfold place;simp[Addr.tJ]
section
variable{α:Type}{iα:Inhabited α}{ao:Option Addr}{n cap:Nat}{e:TypeId}{f:α→List Value}{ef:bH f}{l:List α}{L L':List Chunk}
def bY{α:Type} [Inhabited α](L:List Chunk)(ao:Option Addr)(n cap:Nat)(f:α→List Value) [bH f](l:List α):Prop:=∀w,Mem w L→Row w (.slice ao n cap) (sz f) n (l.flatMap f)∧l.length=n
theorem bY.arr(t:Take (arr ao n cap e f l) L L'):bY L ao n cap f l:=fun w hm=>⟨(fV.1 (hm.has t)).1.row bH.pos,(fV.1 (hm.has t)).2⟩
theorem bY.rd(t:Take (rd ao n cap f l) L L'):bY L ao n cap f l:=fun w hm=>jJ.1 (hm.has t)
theorem tS{α:Type} [Inhabited α](f:α→List Value) [bH f](l:List α):(l.flatMap f).length=l.length*sz f:=by
 induction l with
 |nil=>simp
 |cons a r ih=>rw[List.flatMap_cons,List.length_append,ih,bH.len a,List.length_cons,Nat.add_mul];simp only[sz];omega
theorem KC{α:Type} [Inhabited α](f:α→List Value) [bH f]:∀(l:List α) (i:Nat),i<l.length→∀j,j<sz f→(l.flatMap f)[i*sz f+j]?=(f (l.getD i default))[j]?
 |[],i,h,_,_=>by simp at h
 |a::r,0,_,j,hj=>by
  rw[List.flatMap_cons,Nat.zero_mul,Nat.zero_add,List.getElem?_append_left (by rw[bH.len a];exact hj)];rfl
 |a::r,i+1,h,j,hj=>by
  rw[List.flatMap_cons,List.getElem?_append_right (by rw[bH.len a,Nat.add_mul];simp only[sz];omega),bH.len a,show(i+1)*sz f+j-(f default).length=i*sz f+j by rw[Nat.add_mul];simp only[sz];omega];exact KC f r i (by simpa using h) j hj
theorem aGK{α:Type} [Inhabited α](f:α→List Value) [bH f](cur:List Value)(l:List α)(i o off n:Nat)(vs:List Value)(a':α)(hn:l.length=n)(hi:i<n)(hc:o+n*sz f≤cur.length)
  (hd:(cur.drop o).take (n*sz f)=l.flatMap f) (hle:off+vs.length≤(f (l.getD i default)).length) (he:f a'=(f (l.getD i default)).take off ++vs ++(f (l.getD i default)).drop (off+vs.length)):
  ((cur.take (o+(i*sz f+off)) ++vs ++cur.drop (o+(i*sz f+off)+vs.length)).drop o).take (n*sz f)=(l.set i a').flatMap f:=by
 have hx:l=l.take i ++(l.getD i default)::l.drop (i+1):=by
  have h1:l.getD i default=l[i]'(by omega):=by simp[List.getD_eq_getElem?_getD,List.getElem?_eq_getElem (show i<l.length by omega)]
  rw[h1,List.getElem_cons_drop,List.take_append_drop]
 generalize l.getD i default=x at *;have hlx:(f x).length=sz f:=bH.len x;have hA:((l.take i).flatMap f).length=i*sz f:=by rw[tS,List.length_take,Nat.min_eq_left (by omega)]
 have hS:(l.set i a').flatMap f=(l.take i).flatMap f ++(f a' ++(l.drop (i+1)).flatMap f):=by
  conv=>lhs;rw[hx]
  rw[List.set_append_right _ _ (by simp;omega)];simp[Nat.min_eq_left (show i≤l.length by omega)]
 have hF:l.flatMap f=(l.take i).flatMap f ++(f x ++(l.drop (i+1)).flatMap f):=by
  conv=>lhs;rw[hx]
  simp
 have hB:((l.drop (i+1)).flatMap f).length=(n-(i+1))*sz f:=by rw[tS,List.length_drop,hn]
 have hcur:cur=cur.take o ++(l.flatMap f ++cur.drop (o+n*sz f)):=by
  rw[←hd,←List.drop_drop,List.take_append_drop,List.take_append_drop]
 have hmul:n*sz f=i*sz f+(sz f+(n-(i+1))*sz f):=by
  have:n=i+(1+(n-(i+1))):=by omega
  conv=>lhs;rw[this]
  rw[Nat.add_mul,Nat.add_mul,Nat.one_mul]
 have hC0:(cur.take o).length=o:=by rw[List.length_take,Nat.min_eq_left (by omega)]
 rw[hF]at hcur;rw[hS,he];generalize(l.take i).flatMap f=A at *;generalize(l.drop (i+1)).flatMap f=B at *;generalize cur.drop (o+n*sz f)=C1 at *;generalize cur.take o=C0 at *;have e1:cur.take (o+(i*sz f+off))=C0 ++(A ++(f x).take off):=by
  rw[hcur,List.take_append,List.take_of_length_le (by omega),hC0,Nat.add_sub_cancel_left,List.append_assoc,List.append_assoc,List.take_append,List.take_of_length_le (by omega),hA,Nat.add_sub_cancel_left,List.take_append_of_le_length (by omega)]
 have e2:cur.drop (o+(i*sz f+off)+vs.length)=(f x).drop (off+vs.length) ++(B ++C1):=by
  rw[hcur,show o+(i*sz f+off)+vs.length=o+(i*sz f+(off+vs.length)) by omega,List.drop_append,List.drop_of_length_le (by omega),hC0,Nat.add_sub_cancel_left,List.nil_append,List.append_assoc,List.append_assoc,List.drop_append,List.drop_of_length_le (by omega),hA,Nat.add_sub_cancel_left,List.nil_append,List.drop_append_of_le_length (by omega)]
 rw[e1,e2];have e3:C0 ++(A ++(f x).take off) ++vs ++((f x).drop (off+vs.length) ++(B ++C1))=C0 ++((A ++((f x).take off ++vs ++(f x).drop (off+vs.length) ++B)) ++C1):=by simp
 rw[e3,List.drop_left' hC0,List.take_left'];simp only[List.length_append,List.length_take,List.length_drop,hA,hB,hlx,hmul];rw[Nat.min_eq_left (by omega)];omega
theorem bY.cell(h:bY L ao n cap f l){w:World}(hm:Mem w L){i:Nat}(hi:i<n):∃b o,ao=some ⟨b,o,none⟩∧∀off v,(f (l.getD i default))[off]?=some v→w.cell? ⟨b,o+(i*sz f+off),none⟩=some v:=by
 obtain⟨⟨h1,h2,ao',cap',he,h3,h4⟩,h5⟩:=h w hm;simp only[Value.slice.injEq]at he;obtain⟨rfl, -,rfl⟩:=he;obtain⟨b,o,rfl,hc⟩:=h4 (by omega);refine⟨b,o,rfl,fun off v hv=>?_⟩;have hoff:off<sz f:=by
  have:=(List.getElem?_eq_some_iff.1 hv).1;rwa [bH.len]at this
 have hlt:i*sz f+off<n*sz f:=by
  have:(i+1)*sz f≤n*sz f:=Nat.mul_le_mul_right _ (by omega);rw[Nat.add_mul]at this;omega
 rw[hc _ hlt,KC f l i (by omega) off hoff];exact hv
end
section
variable{P:Program} [eT P]{Q:Exit→Act→World→Prop}{N:Nd}{E:Env}{L L':List Chunk}
variable{dst:Option Tmp}{ty:TypeId}{pos:String}{aft:Array Edge}{g:Option (Nat×Bool)}
variable{α:Type}{iα:Inhabited α}{ao:Option Addr}{n cap:Nat}{e:TypeId}{f:α→List Value}{ef:bH f}{l:List α}
theorem Still.at_{t:TypeId}{x ix:Operand}{k:IntKind}{j:Int}{i s' b' s2 b2:Nat}{z' z2:List Value}{d2:dO}(hx:ev E x=some (.slice ao n cap))(hi:ev E ix=some (.int k j))(hr:bY L ao n cap f l)
  (ht:bB P t=some ⟨.slice e,s',b',z'⟩) (he:bB P e=some ⟨d2,s2,b2,z2⟩) (hs:s2=sz f) (hj:j=(i:Int)) (hlt:i<n):
  Still P N ⟨dst, .indexAddr t x ix,ty,pos,aft,g⟩ E L (.pointer (place (sz f) ao i 0)):=fun A w hS hM=>by
 obtain⟨b,o,rfl, -⟩:=hr.cell hM hlt;subst hj;have h0:(0:Int)≤(i:Int)∧(i:Int)<(n:Int):=by omega
 have hz:(sizeOf e).run P w= .ok s2 w:=(cI he).size w;subst hs;simp[execOp,hS.ev hx,hS.ev hi,Instr.indexAt,asIntOf,run_underlying (cI ht).slice,h0,hz,vS,Addr.tJ,hlt]
theorem Still.aBp{x:Operand}{s ft:TypeId}{fs:List (Nat×TypeId)}{s' b' fi off o2 i:Nat}{z':List Value}{j:jX}(hx:ev E x=some (.pointer (place (sz f) ao i off)))(hr:bY L ao n cap f l)(hlt:i<n)(ht:bB P s=some ⟨.struct fs,s',b',z'⟩)
  (hf:fs[fi]?=some (o2,ft)) (hj:bB P ft=some j) (hz:Nat.beq j.size 0=false):Still P N ⟨dst, .fieldAddr s x fi,ty,pos,aft,g⟩ E L (.pointer (place (sz f) ao i (off+o2))):=fun A w hS hM=>by
 obtain⟨b,o,rfl, -⟩:=hr.cell hM hlt;have hx':=hS.ev hx;rw[vS]at hx';simp[execOp,hx',WG (i:=0) ht hf hj hz,Addr.tJ,vS,Nat.add_assoc]
theorem Still.aDo{x:Operand}{off i:Nat}(hx:ev E x=some (.pointer (place (sz f) ao i off)))(hr:bY L ao n cap f l)(hlt:i<n):Still P N ⟨dst, .nilCheck x,ty,pos,aft,g⟩ E L (.pointer (place (sz f) ao i off)):=fun A w hS hM=>by
 obtain⟨b,o,rfl, -⟩:=hr.cell hM hlt;have hx':=hS.ev hx;rw[vS]at hx'⊢;simp[execOp,hx']
theorem Still.aCo{x:Operand}{t:TypeId}{i off:Nat}{v:Value}{ti:jX}(hx:ev E x=some (.pointer (place (sz f) ao i off)))(ht:bB P t=some ti)(hd:ti.d.row=false)
  (hr:bY L ao n cap f l) (hlt:i<n) (hv:(f (l.getD i default))[off]?=some v):Still P N ⟨dst, .load t x,ty,pos,aft,g⟩ E L v:=fun A w hS hM=>by
 obtain⟨b,o,rfl,hc⟩:=hr.cell hM hlt;have hx':=hS.ev hx;rw[vS]at hx';simp[execOp,hx',Instr.loadAt,Instr.sureAddr,loadVar,(cI ht).isAgg hd,load,hc off v hv]
theorem Still.aCp{x:Operand}{t:TypeId}{i off s' b':Nat}{fs:List (Nat×TypeId)}{z' ds:List Value}(hx:ev E x=some (.pointer (place (sz f) ao i off)))(ht:bB P t=some ⟨.struct fs,s',b',z'⟩)
  (hr:bY L ao n cap f l) (hlt:i<n) (hv:Cut (f (l.getD i default)) off s' ds):Still P N ⟨dst, .load t x,ty,pos,aft,g⟩ E L (.agg ds.toArray):=fun A w hS hM=>by
 obtain⟨b,o,rfl,hc⟩:=hr.cell hM hlt;have hx':=hS.ev hx;rw[vS]at hx';obtain⟨hl,hg⟩:=hv.get;obtain⟨q,h1, -⟩:=(cI ht).struct;obtain⟨x',z,h3,h4, -⟩:=(cI ht).info;have:=run_loadAt_mid (P:=P) w b (o+(i*sz f+off)) t ds _ (fun j v hj=>by rw[Nat.add_assoc,Nat.add_assoc];exact hc _ v (hg j v hj)) h1 rfl (by rw[h3];simp[h4,hl]);simp[execOp,hx',this]
theorem aB.alloc{t:TypeId}{d0:dO}{s0 b0:Nat}{z0:List Value}{C:Env→List Chunk→Prop}(ht:bB P t=some ⟨d0,s0,b0,z0⟩)(hd:cR N dst=true)(k:∀b,C (cP dst (.pointer (some ⟨b,0,none⟩)) E) (aF b z0 t::L)):
  aB P Q N ⟨dst, .alloc t,ty,pos,aft,g⟩ E L C:=fun K hK A w hS hM=>by
 obtain⟨x,z,h1,h2,h3,h4,h5⟩:=(cI ht).info;have hr:(execOp A.eval ⟨dst, .alloc t,ty,pos,aft,g⟩).run P w= .ok (.value (.pointer (some ⟨w.heap.size,0,none⟩))) (w.alloc (.cells z.cells t)):=by
  simp[execOp,Instr.alloc,zeroValue,typeInfo,h1,h4,newVar,newRow,newObj];rfl
 unfold Oper.wp;rw[hr];refine hK _ _ (k w.heap.size) _ _ (hS.put _ hd) (hM.add ((cB.refl _ _).alloc _) (jO.2 ?_) (fun b hb=>by rw[sJ.1 hb];exact Nat.le_refl _));rw[←(show z.cells.toList=z0 from h5)];simpa using eX.new w z.cells t
theorem aB.box{t:TypeId}{x:Operand}{v:Value}{cs:List Value}{C:Env→List Chunk→Prop}(hx:ev E x=some v)(hc:v.cells=cs.toArray)(hd:cR N dst=true)(k:∀b,C (cP dst (.pointer (some ⟨b,0,none⟩)) E) (aF b cs t::L)):
  aB P Q N ⟨dst, .box t x,ty,pos,aft,g⟩ E L C:=fun K hK A w hS hM=>by
 have hr:(execOp A.eval ⟨dst, .box t x,ty,pos,aft,g⟩).run P w= .ok (.value (.pointer (some ⟨w.heap.size,0,none⟩))) (w.alloc (.cells cs.toArray t)):=by
  simp[execOp,hS.ev hx,Instr.box,hc,newVar,newRow,newObj];rfl
 unfold Oper.wp;rw[hr];exact hK _ _ (k w.heap.size) _ _ (hS.put _ hd) (hM.add ((cB.refl _ _).alloc _) (jO.2 (eX.new w cs.toArray t)) (fun b hb=>by rw[sJ.1 hb];exact Nat.le_refl _))
inductive Put:List Value→Nat→List Value→List Value→Prop
 |done {cs:List Value}:Put cs 0 [] cs
 |take {u v:Value} {r vs r':List Value}:Put r 0 vs r'→Put (u::r) 0 (v::vs) (v::r')
 |skip {u:Value} {r vs r':List Value} {i:Nat}:Put r i vs r'→Put (u::r) (i+1) vs (u::r')
theorem Put.eq{cs vs cs':List Value}{i:Nat}(h:Put cs i vs cs'):i+vs.length≤cs.length∧cs'=cs.take i ++vs ++cs.drop (i+vs.length):=by
 induction h with
 |done=>simp
 |take _ ih=>
  obtain⟨h1,h2⟩:=ih;refine⟨by simp at h1⊢;omega,?_⟩;simp at h2;simp[h2]
 |skip _ ih=>
  obtain⟨h1,h2⟩:=ih;refine⟨by simp at h1⊢;omega,?_⟩;rw[h2];simp[Nat.add_right_comm _ 1]
theorem aB.store{t bt:TypeId}{x y:Operand}{v:Value}{b i:Nat}{cs vs cs':List Value}{ti:jX}{C:Env→List Chunk→Prop}(hx:ev E x=some (.pointer (some ⟨b,i,none⟩)))(hy:ev E y=some v)(hv:v.cells=vs.toArray)
  (ht:bB P t=some ti) (hl:vs.length=ti.size) (h1:vs.all (·.oneCell')=true) (hm:Take (aF b cs bt) L L') (hp:Put cs i vs cs') (hd:cR N dst=true) (k:C (cP dst undef E) (aF b cs' bt::L')):
  aB P Q N ⟨dst, .store t x y,ty,pos,aft,g⟩ E L C:=fun K hK A w hS hM=>by
 have hM':=hM.take hm;have hb:=jO.1 (hM.has hm);obtain⟨hle,he⟩:=hp.eq;obtain⟨x',z,h3,h4, -⟩:=(cI ht).info;have hst:=run_storeVar_mid (P:=P) w b i t vs.toArray (fun j hj=>by
  simp only[List.size_toArray]at hj;exact⟨by rw[hb.cell];simp;omega,hb.free _⟩) (by rw[h3];simp[h4,hl]) (by simpa using h1)
 have hr:(execOp A.eval ⟨dst, .store t x y,ty,pos,aft,g⟩).run P w= .ok .skip (w.setCells b i vs):=by
  have e:storeVar t ⟨b,i,none⟩ v=storeVar t ⟨b,i,none⟩ (.agg vs.toArray):=by
   unfold storeVar;rw[hv];rfl
  simp only[execOp,hS.ev hx,hS.ev hy,Instr.storeAt,Instr.sureAddr,Sem.run_bind,Sem.run_pure,Result.andThen_ok];rw[e,hst];rfl
 unfold Oper.wp;rw[hr];refine hK _ _ k _ _ (hS.put _ hd) (hM'.s6 (cB.setCells (S:=fun c=>c=b) vs i (cB.refl _ _) (fun _=>rfl)) iL (fun c hc _=>sJ.2 hc) (jO.2 ?_) (fun c hc=> .inl (sJ.2 (sJ.1 hc))));rw[he];simpa using hb.setCells vs i (by simpa using hle)
theorem aB.aHI{t:TypeId}{x y:Operand}{v:Value}{i off:Nat}{vs:List Value}{ti:jX}{a':α}{C:Env→List Chunk→Prop}(hx:ev E x=some (.pointer (place (sz f) ao i off)))(hy:ev E y=some v)(hv:v.cells=vs.toArray)
  (ht:bB P t=some ti) (hl:vs.length=ti.size) (h1:vs.all (·.oneCell')=true) (hm:Take (arr ao n cap e f l) L L') (hlt:i<n) (hp:Put (f (l.getD i default)) off vs (f a')) (hd:cR N dst=true)
  (k:C (cP dst undef E) (arr ao n cap e f (l.set i a')::L')):aB P Q N ⟨dst, .store t x y,ty,pos,aft,g⟩ E L C:=fun K hK A w hS hM=>by
 have hM':=hM.take hm;obtain⟨hown0,hln⟩:=fV.1 (hM.has hm);have hcap0:0<cap:=Nat.lt_of_lt_of_le (Nat.lt_of_le_of_lt (Nat.zero_le _) hlt) hown0.le;have hown:=hown0.own hcap0;obtain⟨hle,he⟩:=hp.eq;obtain⟨x',z,h3,h4, -⟩:=(cI ht).info;obtain⟨b,o,rfl, -⟩:=(bY.arr hm).cell hM hlt;obtain⟨q1,ao',cap',q2,q3,q4,q5,q6⟩:=id hown;simp only[Value.slice.injEq]at q2;obtain⟨rfl, -,rfl⟩:=q2;obtain⟨-,q7,cur,q8,q9,q10⟩:=q6 _ rfl;simp only at q7 q8 q9 q10;rw[bH.len]at hle;have hmul:(i+1)*sz f≤cap*sz f:=Nat.mul_le_mul_right _ (by omega);have hmul2:(i+1)*sz f≤n*sz f:=Nat.mul_le_mul_right _ (by omega);rw[Nat.add_mul,Nat.one_mul]at hmul hmul2;simp only[sz]at hmul hmul2 q9 q10 hle;have hst:=run_storeVar_mid (P:=P) w b (o+(i*sz f+off)) t vs.toArray (fun j hj=>by
  simp only[List.size_toArray]at hj;exact⟨by rw[q8.cell];simp only[sz];simp;omega,q8.free _⟩) (by rw[h3];simp[h4,hl]) (by simpa using h1)
 have hx':=hS.ev hx;rw[vS]at hx';have hr:(execOp A.eval ⟨dst, .store t x y,ty,pos,aft,g⟩).run P w= .ok .skip (w.setCells b (o+(i*sz f+off)) vs):=by
  have e:storeVar t ⟨b,o+(i*sz f+off),none⟩ v=storeVar t ⟨b,o+(i*sz f+off),none⟩ (.agg vs.toArray):=by
   unfold storeVar;rw[hv];rfl
  simp only[execOp,hx',hS.ev hy,Instr.storeAt,Instr.sureAddr,Sem.run_bind,Sem.run_pure,Result.andThen_ok];rw[e,hst];rfl
 unfold Oper.wp;rw[hr];have hb2:=q8.setCells vs (o+(i*sz f+off)) (by simp only[sz];omega);refine hK _ _ k _ _ (hS.put _ hd) (hM'.s6 (cB.setCells (S:=fun c=>c=b) vs _ (cB.refl _ _) (fun _=>rfl)) dU (fun c hc _=>gG.2 ⟨by rw[hc];rfl,hcap0⟩) (fV.2 ⟨jW.of ?_,by simpa using hln⟩) (fun c hc=> .inl (gG.2 (gG.1 hc))));refine⟨by rw[tS];simp[hln],_,cap,rfl,q3,q4,(fun h=>by cases h),fun ad cG=>?_⟩
 cases cG
 refine⟨rfl,Nat.zero_le _,_,hb2,?_,?_⟩
 ·simp only[List.size_toArray,List.length_append,List.length_take,List.length_drop,Array.length_toList,sz];omega
 ·have:=aGK f cur.toList l i o off n vs a' hln hlt (by simp only[sz]at *;simp;have:n*(f default).length≤cap*(f default).length:=Nat.mul_le_mul_right _ (by omega);omega) (by simp only[sz];exact q10) (by rw[bH.len];exact hle) he;simpa[sz]using this
end
theorem R4(off:Nat):∀(vs:List Value) (k:Nat) (cs:Array Value),off+k+vs.length≤cs.size→
  ((vs.zipIdx k).foldl (fun cs (x:Value×Nat)=>cs.setIfInBounds (off+x.2) x.1) cs).toList=cs.toList.take (off+k) ++vs ++cs.toList.drop (off+k+vs.length)
 |[],k,cs,h=>by simp
 |v::vs,k,cs,h=>by
  simp only[List.length_cons]at h;rw[List.zipIdx_cons,List.foldl_cons,R4 off vs (k+1) _ (by simp;omega)];have ho:off+k<cs.toList.length:=by simp;omega
  simp only[Array.toList_setIfInBounds,List.length_cons];rw[List.take_set,List.drop_set_of_lt (by omega),show off+(k+1)=off+k+1 by omega,List.take_succ_eq_append_getElem ho,List.set_append_right _ _ (by simp;omega)];simp only[List.length_take,Nat.min_eq_left (Nat.le_of_lt ho),Nat.sub_self,List.set_cons_zero,List.append_assoc,List.cons_append,List.nil_append];rw[show off+k+1+vs.length=off+k+(vs.length+1) by omega]
inductive nR(E:Env)(pl:Nat→Option (Nat×Nat)):List Value→List (Nat×Operand)→List Value→Prop
 |nil {cs:List Value}:nR E pl cs [] cs
 |cons {cs cs1 cs2 vs:List Value} {i off size:Nat} {x:Operand} {v:Value} {r:List (Nat×Operand)}:pl i=some (off,size)→ev E x=some v→v.cells=vs.toArray→vs.length=size→Put cs off vs cs1→nR E pl cs1 r cs2→nR E pl cs ((i,x)::r) cs2
theorem nR.run{E:Env}{N:Nd}{A:Act}(hS:Sat N A E){pl:Nat→Option (Nat×Nat)}{cs cs':List Value}{parts:List (Nat×Operand)}(h:nR E pl cs parts cs'):
  Instr.fill pl cs.toArray (parts.map fun p=>(p.1,A.eval p.2))=some cs'.toArray:=by
 induction h with
 |nil=>rfl
 | @cons cs cs1 cs2 vs i off size x v r h1 h2 h3 h4 h5 _ ih=>
  obtain⟨hle,he⟩:=h5.eq;have e:(v.cells.zipIdx.foldl (fun cs (x:Value×Nat)=>cs.setIfInBounds (off+x.2) x.1) cs.toArray)=cs1.toArray:=by
   apply Array.ext';have:=R4 off vs 0 cs.toArray (by simpa using hle);rw[h3,←Array.foldl_toList,Array.toList_zipIdx];simp only[Nat.add_zero]at this;rw[this,he]
  simp only[List.map_cons,Instr.fill,h1,hS.ev h2];rw[if_neg (by rw[h3];simp[h4];omega)];refine Eq.trans ?_ ih;congr 1
inductive App:List Value→List Value→List Value→Prop
 |nil {r:List Value}:App [] r r
 |cons {x:Value} {a r r':List Value}:App a r r'→App (x::a) r (x::r')
theorem App.eq{a b c:List Value}(h:App a b c):c=a ++b:=by induction h with|nil=>rfl|cons _ ih=>rw[ih];rfl
inductive tH(z:List Value):Nat→List Value→Prop
 |zero:tH z 0 []
 |succ {n:Nat} {r r':List Value}:tH z n r→App z r r'→tH z (n+1) r'
theorem tH.eq{z r:List Value}{n:Nat}(h:tH z n r):r=(List.replicate n z).flatten:=by
 induction h with
 |zero=>rfl
 |succ _ h2 ih=>rw[h2.eq,ih,List.replicate_succ,List.flatten_cons]
theorem VX(z:Array Value)(hz:0<z.size):∀n,(Array.range (n*z.size)).map (z[· % z.size]!)=(List.replicate n z.toList).flatten.toArray:=by
 intro n;have hlen:∀m,(List.replicate m z.toList).flatten.length=m*z.size:=by
  intro m
  induction m with
  |zero=>simp
  |succ m ih=>rw[List.replicate_succ,List.flatten_cons,List.length_append,ih,Nat.add_mul];simp;omega
 have hget:∀m j,j<m*z.size→(List.replicate m z.toList).flatten[j]?=z[j % z.size]?:=by
  intro m
  induction m with
  |zero=>intro j hj;simp at hj
  |succ m ih=>
   intro j hj;rw[List.replicate_succ,List.flatten_cons]
   by_cases h:j<z.size
   ·rw[List.getElem?_append_left (by simpa using h),Nat.mod_eq_of_lt h];simp
   ·rw[List.getElem?_append_right (by simp;omega)];rw[Nat.add_mul]at hj;have:=ih (j-z.size) (by omega);rw[Nat.mod_eq_sub_mod (by omega)];simpa using this
 apply Array.ext
 ·simp[hlen n]
 ·intro i h1 h2;simp only[Array.size_map,Array.size_range]at h1;have h3:=hget n i h1;have hm:i % z.size<z.size:=Nat.mod_lt _ hz;rw[Array.getElem?_eq_getElem hm]at h3;simp only[Array.getElem_map,Array.getElem_range,List.getElem_toArray];rw[getElem!_pos z _ hm];rw[List.getElem?_eq_getElem (by simpa using h2)]at h3;exact(Option.some.inj h3).symm
section
variable{P:Program} [eT P]{Q:Exit→Act→World→Prop}{N:Nd}{E:Env}{L L':List Chunk}
variable{dst:Option Tmp}{ty:TypeId}{pos:String}{aft:Array Edge}{g:Option (Nat×Bool)}
def DA(P:Program) [eT P](fs:List (Nat×TypeId))(i:Nat):Option (Nat×Nat):=match fs[i]? with
 |some p=>match bB P p.2 with
  |some j=>some (p.1,j.size)
  |none=>none
 |none=>none
theorem nR.mono{pl pl':Nat→Option (Nat×Nat)}{cs cs':List Value}{parts:List (Nat×Operand)}(h:nR E pl cs parts cs')(hp:∀i x,pl i=some x→pl' i=some x):nR E pl' cs parts cs':=by
 induction h with
 |nil=>exact .nil
 |cons h1 h2 h3 h4 h5 _ ih=>exact .cons (hp _ _ h1) h2 h3 h4 h5 ih
theorem Still.build{t:TypeId}{fs:List (Nat×TypeId)}{s' b':Nat}{z' cs:List Value}{parts:List (Nat×Operand)}(ht:bB P t=some ⟨.struct fs,s',b',z'⟩)(hall:fs.all (fun p=>(bB P p.2).isSome)=true)(hf:nR E (DA P fs) z' parts cs):
  Still P N ⟨dst, .build t parts.toArray,ty,pos,aft,g⟩ E L (.agg cs.toArray):=fun A w hS hM=>by
 obtain⟨x,z,h1,h2,h3,h4,h5⟩:=(cI ht).info;obtain⟨l,h6,h7⟩:=(cI ht).struct;have hpl:∃places,l.toList.mapM (fun f=>(P.info? f.type).map fun i=>(f.offset,i.size))=some places∧∀i y,DA P fs i=some y→places.toArray[i]?=some y:=by
  subst h7;have key:∀(m:List Field),(m.map (fun f=>(f.offset,f.type))).all (fun p=>(bB P p.2).isSome)=true→∃places,m.mapM (fun f=>(P.info? f.type).map fun i=>(f.offset,i.size))=some places∧∀i y,DA P (m.map fun f=>(f.offset,f.type)) i=some y→places[i]?=some y:=by
   intro m
   induction m with
   |nil=>intro _;exact⟨[],rfl,fun i y h=>by simp[DA]at h⟩
   |cons f r ih=>
    intro ha;simp only[List.map_cons,List.all_cons,Bool.and_eq_true]at ha;obtain⟨pr,hp1,hp2⟩:=ih ha.2;obtain⟨j,hj⟩:=Option.isSome_iff_exists.1 ha.1;obtain⟨x',z',k1,k2, -⟩:=(cI hj).info;refine⟨(f.offset,x'.size)::pr,by simp[List.mapM_cons,k1,hp1],fun i y hy=>?_⟩
    cases i with
    |zero=>
     simp only[DA,List.map_cons,List.getElem?_cons_zero,hj,Option.some.injEq]at hy;rw[←hy,k2];rfl
    |succ i=>exact hp2 i y hy
  obtain⟨pr,hp1,hp2⟩:=key l.toList hall;exact⟨pr,hp1,fun i y hy=>by simpa using hp2 i y hy⟩
 obtain⟨places,hp1,hp2⟩:=hpl;have hfill:=(hf.mono (pl':=(places.toArray[·]?)) hp2).run hS;have hb:P.built t (parts.toArray.map fun p=>(p.1,A.eval p.2)).toList=some cs.toArray:=by
  unfold Program.built;simp only[h1,h6,h4,hp1];rw[show z.cells=z'.toArray from by rw[←(show z.cells.toList=z' from h5)]];simpa using hfill
 have:=run_build (P:=P) w t _ _ hb;simp only[execOp,Sem.run_bind]
 erw [this]
 rfl
theorem aFX(w:World)(t e:TypeId){i:jX}(hu:P.underlying t=some (.slice e))(he:jC P e i):(Instr.buildSlice t 0 #[]).run P w= .ok (.slice (some ⟨w.heap.size,0,none⟩) 0 0) (w.alloc (.cells #[] e)):=by
 obtain⟨x,z,h1,h2, -⟩:=he.info;simp[Instr.buildSlice,run_underlying hu,sizeOf,typeInfo,h1,Instr.fill,newRow,Array.range_zero']
theorem aB.buildSlice{t e:TypeId}{len s' b' s2 b2:Nat}{d2:dO}{z' z2 zs cs:List Value}{parts:List (Nat×Operand)}{C:Env→List Chunk→Prop}(ht:bB P t=some ⟨.slice e,s',b',z'⟩)(he:bB P e=some ⟨d2,s2,b2,z2⟩)
  (hz:z2.length=s2) (hsm:Nat.ble (len*s2) 16777216=true) (hpos:Nat.blt 0 (len*s2)=true) (hr:tH z2 len zs) (hf:nR E (fun i=>some (i*s2,s2)) zs parts cs) (hd:cR N dst=true)
  (k:∀b,C (cP dst (.slice (some ⟨b,0,none⟩) len len) E) (aF b cs e::L)):aB P Q N ⟨dst, .buildSlice t len parts.toArray,ty,pos,aft,g⟩ E L C:=fun K hK A w hS hM=>by
 obtain⟨x,z,h1,h2,h3,h4,h5⟩:=(cI he).info;have hpos':0<len*s2:=Nat.le_of_ble_eq_true hpos;have hs2:0<s2:=by
  rcases Nat.eq_zero_or_pos s2 with h|h
  ·subst h;simp at hpos'
  ·exact h
 simp only at h2 h5;have hzs:z.cells.size=s2:=by rw[←hz,←h5];simp
 have hfill:=hf.run hS;have hrun:=run_buildSlice (P:=P) w t e len (parts.toArray.map fun p=>(p.1,A.eval p.2)) cs.toArray x z (cI ht).slice h1 h4 (by rw[h2];have:=Nat.le_of_ble_eq_true hsm;omega) (by rw[h2];omega) (by
  rw[h2];have:=VX z.cells (by omega) len;rw[hzs]at this;rw[hzs,this,h5,←hr.eq];simpa using hfill)
 have hr':(execOp A.eval ⟨dst, .buildSlice t len parts.toArray,ty,pos,aft,g⟩).run P w= .ok (.value (.slice (some ⟨w.heap.size,0,none⟩) len len)) (w.alloc (.cells cs.toArray e)):=by
  simp only[execOp,Sem.run_bind]
  erw [hrun]
  rfl
 unfold Oper.wp;rw[hr'];exact hK _ _ (k w.heap.size) _ _ (hS.put _ hd) (hM.add ((cB.refl _ _).alloc _) (jO.2 (eX.new w cs.toArray e)) (fun b hb=>by rw[sJ.1 hb];exact Nat.le_refl _))
theorem aB.aAJ{t e:TypeId}{s' b' s2 b2:Nat}{d2:dO}{z' z2:List Value}{C:Env→List Chunk→Prop}(ht:bB P t=some ⟨.slice e,s',b',z'⟩)(he:bB P e=some ⟨d2,s2,b2,z2⟩)(hd:cR N dst=true)
  (k:∀b,C (cP dst (.slice (some ⟨b,0,none⟩) 0 0) E) (aF b [] e::L)):aB P Q N ⟨dst, .buildSlice t 0 #[],ty,pos,aft,g⟩ E L C:=fun K hK A w hS hM=>by
 have hr':(execOp A.eval ⟨dst, .buildSlice t 0 #[],ty,pos,aft,g⟩).run P w= .ok (.value (.slice (some ⟨w.heap.size,0,none⟩) 0 0)) (w.alloc (.cells #[] e)):=by
  simp only[execOp,Sem.run_bind];rw[show(Array.map (fun(x:Nat×Operand)=>(x.fst,A.eval x.snd)) #[])= #[] by simp,aFX w t e (cI ht).slice (cI he)];rfl
 unfold Oper.wp;rw[hr'];exact hK _ _ (k w.heap.size) _ _ (hS.put _ hd) (hM.add ((cB.refl _ _).alloc _) (jO.2 (eX.new w #[] e)) (fun b hb=>by rw[sJ.1 hb];exact Nat.le_refl _))
section
variable{α:Type}{iα:Inhabited α}{ao:Option Addr}{n cap:Nat}{e:TypeId}{f:α→List Value}{ef:bH f}{l:List α}
theorem UO{α:Type} [Inhabited α](f:α→List Value) [bH f](l:List α):∀u∈l.flatMap f,u.oneCell'=true:=fun u hu=>by
 obtain⟨a, -,ha⟩:=List.mem_flatMap.1 hu;exact bH.one a u ha
theorem XQ{s2 b2:Nat}{d2:dO}{z2:List Value}(he:bB P e=some ⟨d2,s2,b2,z2⟩)(hz:z2.length=s2):∃z:Value,(P.info? e).map (fun i=>(i.zero,i.size,i.bytes))=some (some z,s2,b2)∧z.cells.size=s2:=by
 obtain⟨x,z,h1,h2,h3,h4,h5⟩:=(cI he).info;refine⟨z,by rw[h1];simp[h2,h3,h4],?_⟩;rw[←hz,←(show z.cells.toList=z2 from h5)];simp
theorem Mem.jB{w:World}{b:Nat}{cs:List Value}(h:Mem w L)(t:Take (aF b cs e) L L')(l:List α)(hc:cs=l.flatMap f)(hn:l.length=n)(hx:n≤maxLen):Mem w (arr (some ⟨b,0,none⟩) n n e f l::L'):=by
 have hb:=jO.1 (h.has t);refine(h.take t).s6 (S:=Nil) (cB.refl _ _) iL (fun _ h _=>h.elim) (fV.2 ⟨jW.of ?_,hn⟩) (fun c hc=> .inl (sJ.2 (by have:=(gG.1 hc).1;simp[Value.ownBlock]at this;exact this.symm)));have hl:=tS f l;refine⟨by rw[hl,hn],_,n,rfl,Nat.le_refl _,hx,(fun h=>by cases h),fun ad cG=>?_⟩
 cases cG
 refine⟨rfl,Nat.zero_le _,cs.toArray,hb,?_,?_⟩
 ·simp only[List.size_toArray,hc,hl,hn];omega
 ·rw[hc];simp only[List.drop_zero];exact List.take_of_length_le (by rw[hl,hn];exact Nat.le_refl _)
theorem Mem.cU{α:Type} [Inhabited α]{w:World}(h:Mem w L)(e:TypeId)(f:α→List Value) [bH f]:Mem w (arr none 0 0 e f []::L):=
 h.add (cB.refl _ _) (fV.2 ⟨.inl ⟨rfl,rfl,rfl⟩,rfl⟩) (fun b hb=>by have:=(gG.1 hb).2;omega)
theorem aFV{P:Program}{w:World}(t ty e:TypeId)(size bytes:Nat)(z:Value)(ht:P.underlying t=some (.slice e))(hi:(P.info? e).map (fun i=>(i.zero,i.size,i.bytes))=some (some z,size,bytes))
  (ao:Option Addr) (xo:Option Addr) (m c:Nat) (hm:0<m) (h63:m≤9223372036854775807) (hbytes:m*bytes≤140737488355328):
  (Builtin.append_ #[t,t] ty #[.slice ao 0 0, .slice xo m c]).run P w=(Builtin.append_ #[t,t] ty #[.slice none 0 0, .slice xo m c]).run P w:=by
 cases ao with
 |none=>rfl
 |some a=>
  obtain⟨i,hi0,hi1,hi2,hi3⟩:=info_parts hi;have h1:¬(m≤0):=by omega
  have h2:Builtin.nextslicecap m 0=m:=by simp[Builtin.nextslicecap];omega
  have h0:¬m=0:=by omega
  have h4:¬((9223372036854775807:Int)<(m:Int)∧i.bytes=0):=by omega
  have h5:¬((281474976710656:Nat)<m*i.bytes):=by rw[hi3];omega
  simp[h0,h4,h5,Builtin.append_,run_underlying ht,sizeOf,typeInfo,hi0,Builtin.lenOf,h1,h2,Builtin.firstCells,loadCells,loadCellsFrom]
theorem WL{P:Program}{w:World}(t ty e:TypeId)(z:Value)(size bytes:Nat)(ht:P.underlying t=some (.slice e))(hi:(P.info? e).map (fun i=>(i.zero,i.size,i.bytes))=some (some z,size,bytes))
  (hzs:z.cells.size=size) (hsz:0<size) (ao:Option Addr) (n cap:Nat) (xs:List Value) (hown:jW w e size ao n cap xs)
  (xo:Option Addr) (m c:Nat) (news:List Value) (hrow:Row w (.slice xo m c) size m news) (h1:∀u∈news,u.oneCell'=true)
  (h63:n+m≤maxLen) (hbytes:(n+m)*bytes≤140737488355328):
  ∃ao' cap' w',(Builtin.append_ #[t,t] ty #[.slice ao n cap, .slice xo m c]).run P w= .ok (.slice ao' (n+m) cap') w'∧jW w' e size ao' (n+m) cap' (xs ++news)∧
   cB (fun i=>(Value.slice ao n cap).ownBlock=some i∧0<cap) w w'∧∀b,(Value.slice ao' (n+m) cap').ownBlock=some b→0<cap'→((Value.slice ao n cap).ownBlock=some b∧0<cap)∨w.heap.size≤b:=by
 have key:∀ao0,Own w 0 e size (.slice ao0 n cap) n xs→(Builtin.append_ #[t,t] ty #[.slice ao n cap, .slice xo m c]).run P w=(Builtin.append_ #[t,t] ty #[.slice ao0 n cap, .slice xo m c]).run P w→(∀i,(Value.slice ao0 n cap).ownBlock=some i→(Value.slice ao n cap).ownBlock=some i∧0<cap)→
   ∃ao' cap' w',(Builtin.append_ #[t,t] ty #[.slice ao n cap, .slice xo m c]).run P w= .ok (.slice ao' (n+m) cap') w'∧jW w' e size ao' (n+m) cap' (xs ++news)∧
   cB (fun i=>(Value.slice ao n cap).ownBlock=some i∧0<cap) w w'∧∀b,(Value.slice ao' (n+m) cap').ownBlock=some b→0<cap'→((Value.slice ao n cap).ownBlock=some b∧0<cap)∨w.heap.size≤b:=by
  intro ao0 ho he hk;obtain⟨v',w',hrun,h2,h3,h4⟩:=aF3 (P:=P) (w:=w) 0 t ty e z size bytes ht hi hzs hsz _ n _ ho _ m _ hrow h1 h63 hbytes (Nat.zero_le _);obtain⟨-,ao',cap',rfl, -⟩:=id h2;refine⟨ao',cap',w',he.trans hrun,jW.of h2,h3.mono (fun i _ h=>hk i h),fun b hb _=>?_⟩;rcases h4 with h4|h4
  ·exact .inl (hk b (by rw[←h4];exact hb))
  ·exact .inr (h4 b hb)
 rcases hown with⟨rfl,rfl,rfl⟩|⟨h0,hown⟩
 ·by_cases hm:m=0
  ·subst hm;obtain rfl:news=[]:=List.eq_nil_of_length_eq_zero (by simpa using hrow.1);obtain⟨i,hi0,hi1,hi2,hi3⟩:=info_parts hi;refine⟨ao,0,w,?_, .inl ⟨rfl,rfl,rfl⟩,cB.refl _ _,fun b _ h=>by omega⟩
   cases xo<;>cases ao<;>simp[Builtin.append_,run_underlying ht,sizeOf,typeInfo,hi0,Builtin.lenOf,Builtin.firstCells,storeCells,loadCells,loadCellsFrom]
  ·exact key none (Own.nil _ _ _ _) (aFV t ty e size bytes z ht hi ao xo m c (by omega) (by unfold maxLen at h63;omega) (by simpa using hbytes)) (fun i h=>by simp[Value.ownBlock]at h)
 ·exact key ao hown rfl (fun i h=>⟨h,h0⟩)
theorem aDk{w:World}{b size c:Nat}{cs:List Value}{e:TypeId}(h:eX w b cs.toArray e)(hl:cs.length=size)(hc:Nat.ble 1 c=true):Row w (.slice (some ⟨b,0,none⟩) 1 c) size 1 cs:=
 ⟨by simpa using hl,by unfold maxLen;omega,_,c,rfl,Nat.le_of_ble_eq_true hc,fun _=>⟨b,0,rfl,fun j hj=>by rw[h.cell];simp⟩⟩
theorem aB.Z6{t:TypeId}{s x:Operand}{b c s' b' s2 b2:Nat}{d2:dO}{z' z2 cs:List Value}{L2:List Chunk}{a:α}{C:Env→List Chunk→Prop}(hs:ev E s=some (.slice ao n cap))(hx:ev E x=some (.slice (some ⟨b,0,none⟩) 1 c))(hc:Nat.ble 1 c=true)
  (ht:bB P t=some ⟨.slice e,s',b',z'⟩) (he:bB P e=some ⟨d2,s2,b2,z2⟩) (hz:z2.length=s2) (hm:Take (arr ao n cap e f l) L L') (hb:Take (aF b cs e) L' L2) (hs2:s2=sz f) (ha:f a=cs)
  (hn:n+1≤9223372036854775807) (hby:(n+1)*b2≤140737488355328) (hd:cR N dst=true)
  (k:∀ao' cap',C (cP dst (.slice ao' (n+1) cap') E) (arr ao' (n+1) cap' e f (l ++[a])::L2)):aB P Q N ⟨dst, .call ⟨.builtin .append, #[s,x], #[t,t]⟩,ty,pos,aft,g⟩ E L C:=fun K hK A w hS hM=>by
 have hM':=hM.take hm;obtain⟨hown,hln⟩:=fV.1 (hM.has hm);have hbl:=jO.1 ((hM.take hm).sub (List.sublist_cons_self _ _)|>.has hb);obtain⟨z,hi,hzs⟩:=XQ he hz;subst hs2 ha;obtain⟨ao',cap',w',hrun,h2,h3,h4⟩:=WL (P:=P) (w:=w) t ty e z (sz f) b2 (cI ht).slice hi hzs bH.pos ao n cap _ hown (some ⟨b,0,none⟩) 1 c (f a) (aDk hbl (by simp[bH.len]) hc) (bH.one a) (by unfold maxLen;omega) hby;unfold Oper.wp;have hr':(execOp A.eval ⟨dst, .call ⟨.builtin .append, #[s,x], #[t,t]⟩,ty,pos,aft,g⟩).run P w= .ok (.value (.slice ao' (n+1) cap')) w':=by
  simp only[execOp,resolve,invoke,builtin,Sem.run_bind,Sem.run_pure,Result.andThen_ok,List.map_toArray,List.map_cons,List.map_nil,hS.ev hs,hS.ev hx,hrun]
 rw[hr'];refine hK _ _ (k ao' cap') _ _ (hS.put _ hd) ?_;have h5:=hM'.s6 (c':=arr ao' (n+1) cap' e f (l ++[a])) h3 dU (fun c hc _=>gG.2 hc) (fV.2 ⟨by simpa using h2,by simp[hln]⟩) (fun c hc=>(h4 c (gG.1 hc).1 (gG.1 hc).2).imp gG.2 id);exact((h5.perm (List.Perm.cons _ hb.perm)).perm (List.Perm.swap _ _ _)).sub (List.sublist_cons_self _ _)
theorem aB.Z7{t:TypeId}{s x:Operand}{m c s' b' s2 b2:Nat}{d2:dO}{z' z2:List Value}{xo:Option Addr}{l2:List α}{C:Env→List Chunk→Prop}(hs:ev E s=some (.slice ao n cap))(hx:ev E x=some (.slice xo m c))
  (ht:bB P t=some ⟨.slice e,s',b',z'⟩) (he:bB P e=some ⟨d2,s2,b2,z2⟩) (hz:z2.length=s2) (hm:Take (arr ao n cap e f l) L L') (hr:bY L' xo m c f l2) (hs2:s2=sz f)
  (hn:n+m≤9223372036854775807) (hby:(n+m)*b2≤140737488355328) (hd:cR N dst=true)
  (k:∀ao' cap',C (cP dst (.slice ao' (n+m) cap') E) (arr ao' (n+m) cap' e f (l ++l2)::L')):aB P Q N ⟨dst, .call ⟨.builtin .append, #[s,x], #[t,t]⟩,ty,pos,aft,g⟩ E L C:=fun K hK A w hS hM=>by
 have hM':=hM.take hm;obtain⟨hown,hln⟩:=fV.1 (hM.has hm);obtain⟨hrow,hl2⟩:=hr w (hM'.sub (List.sublist_cons_self _ _));obtain⟨z,hi,hzs⟩:=XQ he hz;subst hs2;obtain⟨ao',cap',w',hrun,h2,h3,h4⟩:=WL (P:=P) (w:=w) t ty e z (sz f) b2 (cI ht).slice hi hzs bH.pos ao n cap _ hown xo m c _ hrow (UO f l2) (by unfold maxLen;omega) hby;unfold Oper.wp;have hr':(execOp A.eval ⟨dst, .call ⟨.builtin .append, #[s,x], #[t,t]⟩,ty,pos,aft,g⟩).run P w= .ok (.value (.slice ao' (n+m) cap')) w':=by
  simp only[execOp,resolve,invoke,builtin,Sem.run_bind,Sem.run_pure,Result.andThen_ok,List.map_toArray,List.map_cons,List.map_nil,hS.ev hs,hS.ev hx,hrun]
 rw[hr'];refine hK _ _ (k ao' cap') _ _ (hS.put _ hd) ?_;exact hM'.s6 (c':=arr ao' (n+m) cap' e f (l ++l2)) h3 dU (fun c hc _=>gG.2 hc) (fV.2 ⟨by simpa using h2,by simp[hln,hl2]⟩) (fun c hc=>(h4 c (gG.1 hc).1 (gG.1 hc).2).imp gG.2 id)
theorem aB.makeSlice{t:TypeId}{x y:Operand}{s' b' s2 b2:Nat}{d2:dO}{z' z2:List Value}{z:α}{kx ky:IntKind}{j j':Int}{C:Env→List Chunk→Prop}(hx:ev E x=some (.int kx j))(hy:ev E y=some (.int ky j'))(hj:j=(n:Int))(hj':j'=(n:Int))
  (ht:bB P t=some ⟨.slice e,s',b',z'⟩) (he:bB P e=some ⟨d2,s2,b2,z2⟩) (hs2:s2=sz f) (hz:f z=z2) (hn:n≤9223372036854775807) (hby:n*b2≤140737488355328) (hd:cR N dst=true)
  (k:∀b,C (cP dst (.slice (some ⟨b,0,none⟩) n n) E) (arr (some ⟨b,0,none⟩) n n e f (List.replicate n z)::L)):aB P Q N ⟨dst, .makeSlice t x y,ty,pos,aft,g⟩ E L C:=fun K hK A w hS hM=>by
 obtain⟨xi,zv,h1,h2,h3,h4,h5⟩:=(cI he).info;simp only at h2 h3 h5;subst hj hj';have hrun:=run_make (P:=P) w t e xi zv (cI ht).slice h1 h4 kx ky n n (by omega) (Int.le_refl _) (by rw[h3];have:((n*b2:Nat):Int)≤140737488355328:=(by omega);rw[Int.natCast_mul,Int.mul_comm]at this;omega) (by omega);have hzs:zv.cells.size=sz f:=by
  have:=bH.len (f:=f) z;simp only[sz];rw[←this,hz,←h5];simp
 have hcells:madeCells zv.cells (n*xi.size)=((List.replicate n z).flatMap f).toArray:=by
  unfold madeCells;rw[h2,hs2];have:=VX zv.cells (by rw[hzs];exact bH.pos) n;rw[hzs]at this;rw[hzs,this,h5,←hz];congr 1;have:∀m,(List.replicate m (f z)).flatten=(List.replicate m z).flatMap f:=by
   intro m;induction m with
   |zero=>rfl
   |succ m ih=>rw[List.replicate_succ,List.replicate_succ,List.flatten_cons,List.flatMap_cons,ih]
  exact this n
 unfold Oper.wp;have hr':(execOp A.eval ⟨dst, .makeSlice t x y,ty,pos,aft,g⟩).run P w= .ok (.value (.slice (some ⟨w.heap.size,0,none⟩) n n)) (w.alloc (.cells (madeCells zv.cells (n*xi.size)) e)):=by
  simp only[execOp,hS.ev hx,hS.ev hy,Sem.run_bind,hrun,Int.toNat_natCast,Result.andThen_ok,Sem.run_pure]
 rw[hr',hcells];refine hK _ _ (k w.heap.size) _ _ (hS.put _ hd) ?_;exact(hM.add ((cB.refl _ _).alloc _) (jO.2 (eX.new w _ e)) (fun b hb=>by rw[sJ.1 hb];exact Nat.le_refl _)).jB (f:=f) .head (List.replicate n z) rfl (by simp) (by unfold maxLen;omega)
inductive eB(E:Env)(n:Nat):Option Operand→Option Operand→Nat→Nat→Prop
 |all:eB E n none none 0 n
 |lo {x:Operand} {k:IntKind} {j:Int} {l:Nat}:ev E x=some (.int k j)→j=(l:Int)→eB E n (some x) none l n
 |hi {y:Operand} {k:IntKind} {j:Int} {h:Nat}:ev E y=some (.int k j)→j=(h:Int)→eB E n none (some y) 0 h
 |both {x y:Operand} {k k':IntKind} {j j':Int} {l h:Nat}:ev E x=some (.int k j)→j=(l:Int)→ev E y=some (.int k' j')→j'=(h:Int)→eB E n (some x) (some y) l h
theorem DI{t:TypeId}{s' b' s2 b2 lo hi:Nat}{d2:dO}{z' z2:List Value}{x:Operand}{ol oh:Option Operand}{A:Act}(hS:Sat N A E)(hx:ev E x=some (.slice ao n cap))(ht:bB P t=some ⟨.slice e,s',b',z'⟩)(he:bB P e=some ⟨d2,s2,b2,z2⟩)
  (hb:eB E n ol oh lo hi) (h1:lo≤hi) (h2:hi≤cap) (w:World):(execOp A.eval ⟨dst, .slice t x ol oh none,ty,pos,aft,g⟩).run P w= .ok (.value (.slice (if cap=lo then ao else ao.map (·.add (lo*s2))) (hi-lo) (cap-lo))) w:=by
 have hsz:=(cI he).size w;have hu:=(cI ht).slice;have hel:P.elem t=e:=by unfold Program.elem;rw[hu]
 have hu':P.underlying t=some (.slice (P.elem t)):=by rw[hel];exact hu
 cases hb with
 |all=>
  simp only[execOp,hS.ev hx,Option.map_none,Sem.run_bind];rw[run_sliceAt_slice _ _ _ _ _ _ hu',run_slice_all w t ao n cap hu',hel,hsz];rfl
 |lo hl hj=>
  subst hj;simp only[execOp,hS.ev hx,hS.ev hl,Option.map_none,Option.map_some,Sem.run_bind];rw[run_sliceAt_slice _ _ _ _ _ _ hu',run_slice_l w t ao n cap hu' _ _ (by omega) (by omega),hel,hsz];simp only[Int.toNat_natCast];rfl
 |hi hl hj=>
  subst hj;simp only[execOp,hS.ev hx,hS.ev hl,Option.map_none,Option.map_some,Sem.run_bind];rw[run_sliceAt_slice _ _ _ _ _ _ hu',run_slice_h w t ao n cap hu' _ _ (by omega) (by omega),hel,hsz];simp only[Int.toNat_natCast];rfl
 |both hl hj hl' hj'=>
  subst hj hj';simp only[execOp,hS.ev hx,hS.ev hl,hS.ev hl',Option.map_none,Option.map_some,Sem.run_bind];rw[run_sliceAt_slice _ _ _ _ _ _ hu',run_slice_lh w t ao n cap hu' _ _ _ _ (by omega) (by omega) (by omega),hel,hsz];simp only[Int.toNat_natCast];rfl
theorem R2{α:Type} [Inhabited α](f:α→List Value) [bH f](l:List α)(h:Nat):(l.flatMap f).take (h*sz f)=(l.take h).flatMap f:=by
 induction l generalizing h with
 |nil=>simp
 |cons a r ih=>
  cases h with
  |zero=>simp
  |succ h=>rw[List.take_succ_cons,List.flatMap_cons,List.flatMap_cons,List.take_append,bH.len a,Nat.add_mul,Nat.one_mul,Nat.add_sub_cancel,ih,List.take_of_length_le (by rw[bH.len a];simp only[sz];omega)]
theorem KA{α:Type} [Inhabited α](f:α→List Value) [bH f](l:List α)(h:Nat):(l.flatMap f).drop (h*sz f)=(l.drop h).flatMap f:=by
 induction l generalizing h with
 |nil=>simp
 |cons a r ih=>
  cases h with
  |zero=>simp
  |succ h=>rw[List.drop_succ_cons,List.flatMap_cons,List.drop_append,bH.len a,Nat.add_mul,Nat.one_mul,Nat.add_sub_cancel,ih,List.drop_of_length_le (by rw[bH.len a];simp only[sz];omega),List.nil_append]
theorem Own.sub [bH f]{w:World}{lo hi:Nat}(h:Own w 0 e (sz f) (.slice ao n cap) n (l.flatMap f))(hln:l.length=n)(h1:lo≤hi)(h2:hi≤n):
  Own w 0 e (sz f) (.slice (if cap=lo then ao else ao.map (·.add (lo*sz f))) (hi-lo) (cap-lo)) (hi-lo) (((l.take hi).drop lo).flatMap f):=by
 obtain⟨g1,ao',cap',g2,g3,g4,g5,g6⟩:=h;simp only[Value.slice.injEq]at g2;obtain⟨rfl, -,rfl⟩:=g2;refine⟨by rw[tS];simp;congr 1;omega,_,_,rfl,by omega,by omega,fun hn=>?_,fun ad cG=>?_⟩
 ·split at hn
  ·omega
  ·have:=g5 (by simpa using hn);omega
 ·cases ao with
  |none=>simp at cG
  |some a0=>
   obtain⟨b,o,sp⟩:=a0;obtain⟨q1,q2,cur,q3,q4,q5⟩:=g6 _ rfl;simp only at q1 q3 q4 q5;subst q1;have hkey:∀o',o'=o+lo*sz f∨hi=lo→(cur.toList.drop o').take ((hi-lo)*sz f)=((l.take hi).drop lo).flatMap f:=by
    intro o' ho';rcases ho' with rfl|hh
    ·rw[←KA,←R2,←q5,List.take_take,List.drop_take,List.drop_drop];have:min (hi*sz f) (n*sz f)=hi*sz f:=Nat.min_eq_left (Nat.mul_le_mul_right _ h2);rw[this,Nat.sub_mul]
    ·subst hh;simp
   have hmul:(cap-lo)*sz f+lo*sz f=cap*sz f:=by rw[←Nat.add_mul];congr 1;omega
   by_cases hc:cap=lo
   ·rw[if_pos hc]at cG
    cases cG
    refine⟨rfl,Nat.zero_le _,cur,q3,?_,hkey _ (.inr (by omega))⟩;rw[hc];simp;simp only[sz]at q4;omega
   ·rw[if_neg hc]at cG;simp only[Option.map_some,Option.some.injEq,Addr.tJ]at cG;subst cG;refine⟨rfl,Nat.zero_le _,cur,q3,?_,hkey _ (.inl rfl)⟩;simp only[sz]at q4 hmul⊢;omega
theorem aB.Q6{t:TypeId}{s' b' s2 b2 lo hi:Nat}{d2:dO}{z' z2:List Value}{x:Operand}{ol oh:Option Operand}{C:Env→List Chunk→Prop}(hx:ev E x=some (.slice ao n cap))(ht:bB P t=some ⟨.slice e,s',b',z'⟩)(he:bB P e=some ⟨d2,s2,b2,z2⟩)
  (hm:Take (arr ao n cap e f l) L L') (hs2:s2=sz f) (hb:eB E n ol oh lo hi) (h1:lo≤hi) (h2:hi≤n) (hd:cR N dst=true)
  (k:∀ao' cap',C (cP dst (.slice ao' (hi-lo) cap') E) (arr ao' (hi-lo) cap' e f ((l.take hi).drop lo)::L')):aB P Q N ⟨dst, .slice t x ol oh none,ty,pos,aft,g⟩ E L C:=fun K hK A w hS hM=>by
 obtain⟨hown,hln⟩:=fV.1 (hM.has hm);have hcap:n≤cap:=hown.le;unfold Oper.wp;rw[DI hS hx ht he hb h1 (by omega) w];subst hs2;refine hK _ _ (k _ _) _ _ (hS.put _ hd) ((hM.take hm).s6 (S:=Nil) (cB.refl _ _) dU (fun _ h _=>h.elim) (fV.2 ⟨?_,by simp;omega⟩) (fun c hc=> .inl (gG.2 ?_)))
 ·rcases hown with⟨rfl,rfl,hnil⟩|⟨-,hown⟩
  ·obtain rfl:hi=0:=by omega
   obtain rfl:lo=0:=by omega
   exact .inl ⟨rfl,rfl,by simp⟩
  ·exact jW.of (hown.sub hln h1 h2)
 ·have h0:=(gG.1 hc).2;have this:=(gG.1 hc).1;refine⟨?_,by omega⟩
  cases ao with
  |none=>simp[Value.ownBlock]at this
  |some a0=>
   by_cases hc':cap=lo
   ·rw[if_pos hc']at this;exact this
   ·rw[if_neg hc']at this;simp only[Value.ownBlock,Option.map_some,Option.some.injEq]at this⊢;rw[←this];unfold Addr.add
    split<;>rfl
end
end
end
end Go.Proofs.YtofckcabpchcmaaGreatDoor
